/- The code of functions, as the evaluator has it; a table of them. No condition. -/
import Derived.Test.YtcgiahehkobpcaaGreatPlace
namespace Go.Proofs.YtcgiahehkobpcaaGreat
open Eva Go.RowKit
set_option maxRecDepth 100000
def Ki :Eva.Fn:={ntmps:=84,res:=[.s 2],body:=
 (sr [iq 2 (.mv (.c (.bool false)))]
 (.seqj [0]
 (sr [iq 9 (.call 5 []),iq 10 (.not (.s 9))]
 (.cond (.s 10)
 (sr [iq 2 (.mv (.c (.bool false)))]
 .ret)
 .skip))
 (sr [iq 11 (.build [(.int .i64 0),(ofL []), .snil, .snil] [(0,1,(ci 2))]),iq 3 (.alloc [(.int .i64 0),(ofL []), .snil, .snil]),iz (.store 4 (.s 3) (.s 11))]
 (sr [iq 4 (.mv (.c (ofL [123,123,97,100,100,32,46,32,49,125,125]))),iq 5 (.mv (.c (ofL [])))]
 (.seqj [3,4,5]
 (sr [ik 6 0]
 (.block 0
 (.loop [0,3,4,5,6]
 (.seqj [0,3,4,5,6]
 (sr [im 12 6,im 13 0,iq 14 (.lenL (.s 13)),iq 15 (.bin .lss (.s 12) (.s 14)),im 16 15,ig 17 16 true (.mv (.s 6)),ig 18 16 true (.bin .lss (.s 17) (ci 8)),iq 19 (.pick (.s 16) (.s 18) (.c (.bool false)))]
 (.cond (.s 19)
 .skip
 (.exit 0)))
 (.seqj [0,3,4,5,6]
 (.block 1
 (.seqj [0,3,4,5,6]
 (sr [im 22 0,im 23 6,iq 24 (.iaddrS 1 (.s 22) (.s 23)),il 25 24,iq 26 (.call 6 [.s 25,(ci 4)])]
 (.block 2
 (sr [iq 28 (.eq (.one .i) false (.s 26) (ci 0)),im 27 28]
 (.cond (.s 27)
 (sr [iq 29 (.loadn 4 (.s 3)),iq 30 (.bsl 4 1 [(.int .i64 0),(ofL []), .snil, .snil] [(0,4,(.s 29))]),iq 31 (.build [(.int .i64 0),(ofL []), .snil, .snil] [(0,1,(ci 4)),(3,1,(.s 30))]),iz (.store 4 (.s 3) (.s 31))]
 (.reg [im 32 4,iq 33 (.bin .add (.c (ofL [123,123,114,97,110,103,101,32,46,125,125])) (.s 32)),im 4 33]))
 (sr [iq 35 (.eq (.one .i) false (.s 26) (ci 1)),im 34 35]
 (.cond (.s 34)
 (sr [iq 36 (.loadn 4 (.s 3)),iq 37 (.bsl 4 1 [(.int .i64 0),(ofL []), .snil, .snil] [(0,4,(.s 36))]),iq 38 (.build [(.int .i64 0),(ofL []), .snil, .snil] [(0,1,(ci 5)),(3,1,(.s 37))]),iz (.store 4 (.s 3) (.s 38))]
 (.reg [im 39 4,iq 40 (.bin .add (.c (ofL [123,123,114,97,110,103,101,32,46,125,125])) (.s 39)),im 4 40]))
 (sr [iq 42 (.eq (.one .i) false (.s 26) (ci 2)),im 41 42]
 (.cond (.s 41)
 (.seqj [0,3,4,5,6]
 (sr [ia 43 0 3,il 44 43,iq 45 (.eq (.one .i) false (.s 44) (ci 6))]
 (.cond (.s 45)
 (.exit 1)
 .skip))
 (sr [iq 46 (.loadn 4 (.s 3)),iq 47 (.bsl 4 1 [(.int .i64 0),(ofL []), .snil, .snil] [(0,4,(.s 46))]),iq 48 (.build [(.int .i64 0),(ofL []), .snil, .snil] [(0,1,(ci 6)),(3,1,(.s 47))]),iz (.store 4 (.s 3) (.s 48))]
 (.reg [im 49 4,iq 50 (.bin .add (.c (ofL [123,123,119,105,116,104,32,46,125,125])) (.s 49)),im 4 50])))
 (sr [iq 52 (.eq (.one .i) false (.s 26) (ci 3)),im 51 52]
 (.cond (.s 51)
 (sr [iq 53 (.bsl 1 1 [(ofL [])] [(0,1,(.c (ofL [107])))]),iq 54 (.loadn 4 (.s 3)),iq 55 (.bsl 4 1 [(.int .i64 0),(ofL []), .snil, .snil] [(0,4,(.s 54))]),iq 56 (.build [(.int .i64 0),(ofL []), .snil, .snil] [(0,1,(ci 8)),(2,1,(.s 53)),(3,1,(.s 55))]),iz (.store 4 (.s 3) (.s 56))]
 (.reg [im 57 4,iq 58 (.bin .add (.c (ofL [123,123,109,97,116,99,104,32,46,125,125,123,123,99,97,115,101,32,107,125,125])) (.s 57)),im 4 58]))
 .skip))))))))))
 (.reg [im 59 5,iq 60 (.bin .add (.s 59) (.c (ofL [123,123,101,110,100,125,125]))),im 5 60])))
 (.reg [im 20 6,iq 21 (.bin .add (.s 20) (ci 1)),im 6 21]))))))
 (sr [iq 61 (.loadn 4 (.s 3)),iq 62 (.build [(.int .i64 0),(ofL []), .snil, .snil, .snil, .snil] [(0,4,(.s 61))]),im 63 4,im 64 5,iq 65 (.bin .add (.s 63) (.s 64)),iq 66 (.call 7 [.s 62, .s 65]),im 7 66]
 (sr [iq 67 (.loadn 4 (.s 3)),iq 68 (.build [(.int .i64 0),(ofL []), .snil, .snil, .snil, .snil] [(0,4,(.s 67))]),im 69 4,im 70 5,iq 71 (.bin .add (.s 69) (.s 70)),iq 72 (.bin .add (.s 71) (.c (ofL [123,123,97,100,100,32,46,32,49,125,125]))),iq 73 (.call 7 [.s 68, .s 72]),im 8 73]
 (sr [im 74 7,iq 75 (.eq (.one .i) false (.s 74) (ci 0)),im 76 75,ig 77 76 true (.mv (.s 8)),ig 78 76 true (.eq (.one .i) false (.s 77) (ci 0)),ig 79 76 true (.faddr 0 (.s 3)),ig 80 76 true (.load1 (.s 79)),ig 81 76 true (.eq (.one .i) false (.s 80) (ci 2)),ig 82 76 true (.eq (.one .b) false (.s 78) (.s 81)),iq 83 (.pick (.s 76) (.s 82) (.c (.bool false))),im 2 83]
 .ret))))))))}
theorem Jtw :compFn Tryz.prog Tryz.f4 [[0],[3,4,5],[0,3,4,5,6],[0,3,4,5,6],[0,3,4,5,6],[0,3,4,5,6],[0,3,4,5,6]]=some Ki:=by kernel_rfl
def Qm :Eva.Fn:={ntmps:=80,res:=[.s 0],body:=
 (sr [iq 0 (.mv (.c (.bool false)))]
 (sr [iq 17 (.bsl 1 1 [(ofL [])] [(0,1,(.c (ofL [97])))]),iq 18 (.build [(.int .i64 0),(ofL []), .snil, .snil] [(0,1,(ci 2))]),iq 19 (.bsl 4 1 [(.int .i64 0),(ofL []), .snil, .snil] [(0,4,(.s 18))]),iq 20 (.build [(.int .i64 0),(ofL []), .snil, .snil] [(0,1,(ci 6)),(3,1,(.s 19))]),iq 21 (.bsl 4 1 [(.int .i64 0),(ofL []), .snil, .snil] [(0,4,(.s 20))]),iq 22 (.build [(.int .i64 0),(ofL []), .snil, .snil] [(0,1,(ci 7)),(2,1,(.s 17)),(3,1,(.s 21))]),iq 23 (.build [(.int .i64 0),(ofL []), .snil, .snil, .snil, .snil] [(0,4,(.s 22))]),iq 1 (.alloc [(.int .i64 0),(ofL []), .snil, .snil, .snil, .snil]),iz (.store 6 (.s 1) (.s 23))]
 (sr [iq 25 (.loadn 6 (.s 1)),iq 26 (.call 8 [.s 25]),im 24 26,ie 27 0 24,ie 28 1 24,ie 29 2 24,iq 4 (.alloc [(.int .i64 0),(ofL []), .snil, .snil, .snil, .snil]),im 2 27,im 3 28,iz (.store 6 (.s 4) (.s 29))]
 (sr [iq 31 (.call 9 [(.c (ofL [123,123,105,102,32,46,97,125,125,123,123,46,97,125,125,123,123,101,110,100,125,125]))]),im 30 31,ie 32 0 30,ie 33 1 30,ie 34 2 30,im 5 32,im 6 33,im 7 34]
 (sr [iq 36 (.call 9 [(.c (ofL [123,123,46,97,125,125]))]),im 35 36,ie 37 0 35,ie 38 1 35,ie 39 2 35,im 8 37,im 9 38,im 10 39]
 (.seqj [2,5,8]
 (sr [im 40 2,iq 41 (.eq (.one .p) false (.s 40) (.c .pnil)),im 42 41,ig 43 42 false (.mv (.s 7)),ig 44 42 false (.eq (.one .i) true (.s 43) (ci 0)),iq 45 (.pick (.s 42) (.c (.bool true)) (.s 44)),im 46 45,ig 47 46 false (.mv (.s 10)),ig 48 46 false (.eq (.one .i) true (.s 47) (ci 0)),iq 49 (.pick (.s 46) (.c (.bool true)) (.s 48))]
 (.cond (.s 49)
 (sr [iq 0 (.mv (.c (.bool false)))]
 .ret)
 .skip))
 (.seq
 (.drw [im 51 2,im 52 2,iq 53 (.call 11 [.s 52]),im 54 5,iq 55 (.iaddrS 2 (.s 54) (ci 0)),ia 56 1 55,il 57 56,⟨(some 58),(.call 10 [.s 51,(.c .snil), .s 53, .s 57]),none,(some [])⟩,im 50 58,ie 59 0 50,ie 60 1 50,ie 61 2 50,im 11 59,im 12 60,im 13 61] [])
 (.seq
 (.drw [im 63 2,im 64 2,iq 65 (.call 11 [.s 64]),im 66 8,iq 67 (.iaddrS 2 (.s 66) (ci 0)),ia 68 1 67,il 69 68,⟨(some 70),(.call 10 [.s 63,(.c .snil), .s 65, .s 69]),none,(some [])⟩,im 62 70,ie 71 0 62,ie 72 1 62,ie 73 2 62,im 14 71,im 15 72,im 16 73] [])
 (sr [im 74 13,iq 75 (.eq (.one .i) false (.s 74) (ci 0)),im 76 75,ig 77 76 true (.mv (.s 16)),ig 78 76 true (.eq (.one .i) false (.s 77) (ci 17)),iq 79 (.pick (.s 76) (.s 78) (.c (.bool false))),im 0 79]
 .ret)))))))))}
theorem Jtx :compFn Tryz.prog Tryz.f5 [[2,5,8]]=some Qm:=by kernel_rfl
def KE :Eva.Fn:={ntmps:=29,res:=[.s 2, .s 3,(.cn 4 6)],body:=
 (sr [iq 1 (.box (.s 0)),iq 2 (.mv (.c .pnil)),iq 3 (.mv (.c .pnil)),iq 4 (.alloc [(.int .i64 0),(ofL []), .snil, .snil, .snil, .snil])]
 (sr [iq 10 (.loadn 6 (.s 1)),iq 11 (.call 12 [.s 10]),im 9 11,ie 12 0 9,ie 13 1 9,im 5 12,im 6 13]
 (sr [iq 15 (.loadn 6 (.s 1)),iq 16 (.call 13 [.s 15]),im 14 16,ie 17 0 14,ie 18 1 14,im 7 17,im 8 18]
 (.seqj [1,4,5,7]
 (sr [im 19 6,iq 20 (.eq (.one .i) true (.s 19) (ci 0)),im 21 20,ig 22 21 false (.mv (.s 8)),ig 23 21 false (.eq (.one .i) true (.s 22) (ci 0)),iq 24 (.pick (.s 21) (.c (.bool true)) (.s 23))]
 (.cond (.s 24)
 (.seq
 (.drw [iq 25 (.loadn 6 (.s 1)),iq 2 (.mv (.c .pnil)),iq 3 (.mv (.c .pnil)),iz (.store 6 (.s 4) (.s 25))] [])
 .ret)
 .skip))
 (.seq
 (.drw [im 26 5,im 27 7,iq 28 (.loadn 6 (.s 1)),im 2 26,im 3 27,iz (.store 6 (.s 4) (.s 28))] [])
 .ret)))))}
theorem Jty :compFn Tryz.prog Tryz.f8 [[1,4,5,7]]=some KE:=by kernel_rfl
def Yx :Eva.Fn:={ntmps:=115,res:=[.s 2, .s 3],body:=
 (sr [iq 1 (.box (.s 0)),iq 2 (.mv (.c .pnil)),ik 3 0]
 (.seqj [1]
 (sr [iq 19 (.loadn 6 (.s 1)),iq 20 (.call 18 [.s 19]),im 4 20]
 (sr [im 21 4,iq 22 (.eq (.one .i) true (.s 21) (ci 0))]
 (.cond (.s 22)
 (sr [im 23 4,iq 2 (.mv (.c .pnil)),im 3 23]
 .ret)
 .skip)))
 (sr [⟨(some 24), .mkmap,none,none⟩,⟨(some 25), .mkmap,none,none⟩,⟨(some 26), .mkmap,none,none⟩,iq 27 (.build [.snil, .mnil, .mnil,(.int .i64 0), .mnil] [(1,1,(.s 24)),(2,1,(.s 25)),(4,1,(.s 26))]),iq 28 (.box (.s 27)),im 5 28]
 (.seqj [1,5]
 (sr [ia 29 4 1,il 30 29,iq 31 (.lenL (.s 30)),ik 32 0]
 (.block 0
 (.loop [1,5,30,31,32]
 (sr [iq 33 (.bin .lss (.s 32) (.s 31))]
 (.seqj [1,5,30,31,32]
 (.cond (.s 33)
 .skip
 (.exit 0))
 (.seqj [1,5,30,31,32]
 (.block 1
 (sr [iq 34 (.iaddrS 5 (.s 30) (.s 32)),iq 35 (.loadn 5 (.s 34)),iq 7 (.alloc [(ofL []),(.int .i64 0),(ofL []), .snil, .snil]),iz (.store 5 (.s 7) (.s 35))]
 (sr [im 37 5,ia 38 1 7,iq 39 (.loadn 4 (.s 38)),iq 40 (.call 19 [.s 37, .s 39]),im 36 40,ie 41 0 36,ie 42 1 36,im 8 41,im 9 42]
 (.seqj [1,5,7,8,30,31,32]
 (sr [im 43 9,iq 44 (.eq (.one .i) true (.s 43) (ci 0))]
 (.cond (.s 44)
 (sr [im 45 9,iq 2 (.mv (.c .pnil)),im 3 45]
 .ret)
 .skip))
 (.drw [im 46 5,iq 47 (.nilck (.s 46)),ia 48 2 47,il 49 48,ia 50 0 7,il 51 50,im 52 8,iz (.mupd (.one .s) (.s 49) (.s 51) (.s 52))] [])))))
 (.reg [iq 53 (.bin .add (.s 32) (ci 1)),im 32 53])))))))
 (sr [im 55 5,ia 56 0 1,iq 57 (.loadn 4 (.s 56)),iq 58 (.call 19 [.s 55, .s 57]),im 54 58,ie 59 0 54,ie 60 1 54,im 10 59,im 11 60]
 (.seqj [1,5,10]
 (sr [im 61 11,iq 62 (.eq (.one .i) true (.s 61) (ci 0))]
 (.cond (.s 62)
 (sr [im 63 11,iq 2 (.mv (.c .pnil)),im 3 63]
 .ret)
 .skip))
 (sr [im 64 5,im 65 10,iq 66 (.nilck (.s 64)),ia 67 3 66,iz (.store 1 (.s 67) (.s 65))]
 (.seqj [5]
 (sr [ia 68 5 1,il 69 68,iq 70 (.lenL (.s 69)),ik 71 0]
 (.block 2
 (.loop [5,69,70,71]
 (sr [iq 72 (.bin .lss (.s 71) (.s 70))]
 (.seqj [5,69,70,71]
 (.cond (.s 72)
 .skip
 (.exit 2))
 (.seqj [5,69,70,71]
 (.block 3
 (sr [iq 73 (.iaddrS 6 (.s 69) (.s 71)),iq 74 (.loadn 6 (.s 73)),iq 13 (.alloc [(ofL []), .snil,(.int .i64 0),(ofL []), .snil, .snil]),iz (.store 6 (.s 13) (.s 74))]
 (sr [ia 75 1 13,il 76 75,iq 77 (.lenL (.s 76)),iq 78 (.bin .add (.s 77) (ci 1)),iq 79 (.mksl 1 [(.int .i64 0)] (ci 0) (.s 78)),im 14 79]
 (.seqj [5,13,14,69,70,71]
 (.seq
 (.drw [ia 80 1 13,il 81 80,iq 82 (.call 20 [.s 81]),ia 83 2 13,iq 84 (.loadn 4 (.s 83)),iq 85 (.bsl 4 1 [(.int .i64 0),(ofL []), .snil, .snil] [(0,4,(.s 84))]),iq 86 (.app 4 (.s 82) (.s 85)),iq 87 (.lenL (.s 86)),ik 88 0] [])
 (.block 4
 (.loop [5,13,14,69,70,71,86,87,88]
 (sr [iq 89 (.bin .lss (.s 88) (.s 87))]
 (.seqj [5,13,14,69,70,71,86,87,88]
 (.cond (.s 89)
 .skip
 (.exit 4))
 (.seqj [5,13,14,69,70,71,86,87,88]
 (.block 5
 (sr [iq 90 (.iaddrS 4 (.s 86) (.s 88)),iq 91 (.loadn 4 (.s 90)),iq 16 (.alloc [(.int .i64 0),(ofL []), .snil, .snil]),iz (.store 4 (.s 16) (.s 91))]
 (sr [im 93 5,iq 94 (.loadn 4 (.s 16)),iq 95 (.call 19 [.s 93, .s 94]),im 92 95,ie 96 0 92,ie 97 1 92,im 17 96,im 18 97]
 (.seqj [5,13,14,17,69,70,71,86,87,88]
 (sr [im 98 18,iq 99 (.eq (.one .i) true (.s 98) (ci 0))]
 (.cond (.s 99)
 (sr [im 100 18,iq 2 (.mv (.c .pnil)),im 3 100]
 .ret)
 .skip))
 (.reg [im 101 14,im 102 17,iq 103 (.bsl 1 1 [(.int .i64 0)] [(0,1,(.s 102))]),iq 104 (.app 1 (.s 101) (.s 103)),im 14 104])))))
 (.reg [iq 105 (.bin .add (.s 88) (ci 1)),im 88 105])))))))
 (.drw [im 106 5,iq 107 (.nilck (.s 106)),ia 108 4 107,il 109 108,ia 110 0 13,il 111 110,im 112 14,iz (.mupd (.one .s) (.s 109) (.s 111) (.s 112))] [])))))
 (.reg [iq 113 (.bin .add (.s 71) (ci 1)),im 71 113])))))))
 (sr [im 114 5,im 2 114,ik 3 0]
 .ret)))))))))}
theorem JqT :compFn Tryz.prog Tryz.f12 [[1],[1,5],[1,5,30,31,32],[1,5,30,31,32],[1,5,30,31,32],[1,5,7,8,30,31,32],[1,5,10],[5],[5,69,70,71],[5,69,70,71],[5,69,70,71],[5,13,14,69,70,71],[5,13,14,69,70,71,86,87,88],[5,13,14,69,70,71,86,87,88],[5,13,14,69,70,71,86,87,88],[5,13,14,17,69,70,71,86,87,88]]=some Yx:=by kernel_rfl
def QZ :Eva.Fn:={ntmps:=79,res:=[.s 2],body:=
 (sr [iq 1 (.box (.s 0)),ik 2 0]
 (.seqj [1]
 (sr [ia 12 4 1,il 13 12,iq 14 (.lenL (.s 13)),iq 15 (.bin .gtr (.s 14) (ci 12)),im 16 15,ig 17 16 false (.faddr 5 (.s 1)),ig 18 16 false (.load1 (.s 17)),ig 19 16 false (.lenL (.s 18)),ig 20 16 false (.bin .gtr (.s 19) (ci 12)),iq 21 (.pick (.s 16) (.c (.bool true)) (.s 20))]
 (.cond (.s 21)
 (sr [ik 2 3]
 .ret)
 .skip))
 (.seqj [1]
 (sr [ia 22 4 1,il 23 22,iq 24 (.call 38 [.s 23]),im 3 24]
 (sr [im 25 3,iq 26 (.eq (.one .i) true (.s 25) (ci 0))]
 (.cond (.s 26)
 (sr [im 27 3,im 2 27]
 .ret)
 .skip)))
 (sr [iq 28 (.loadn 6 (.s 1)),iq 29 (.call 39 [.s 28]),iq 30 (.build [.mnil,(.int .i64 0)] [(0,1,(.s 29))]),iq 31 (.box (.s 30)),im 4 31]
 (.seqj [1,4]
 (sr [ia 32 4 1,il 33 32,iq 34 (.lenL (.s 33)),ik 35 0]
 (.block 0
 (.loop [1,4,33,34,35]
 (sr [iq 36 (.bin .lss (.s 35) (.s 34))]
 (.seqj [1,4,33,34,35]
 (.cond (.s 36)
 .skip
 (.exit 0))
 (.seqj [1,4,33,34,35]
 (.block 1
 (sr [iq 37 (.iaddrS 5 (.s 33) (.s 35)),iq 38 (.loadn 5 (.s 37)),iq 6 (.alloc [(ofL []),(.int .i64 0),(ofL []), .snil, .snil]),iz (.store 5 (.s 6) (.s 38))]
 (sr [im 39 4,ia 40 1 6,iq 41 (.loadn 4 (.s 40)),iq 42 (.call 40 [.s 39, .s 41,(ci 1)]),im 7 42]
 (sr [im 43 7,iq 44 (.eq (.one .i) true (.s 43) (ci 0))]
 (.cond (.s 44)
 (sr [im 45 7,im 2 45]
 .ret)
 .skip)))))
 (.reg [iq 46 (.bin .add (.s 35) (ci 1)),im 35 46])))))))
 (.seqj [1,4]
 (sr [im 47 4,ia 48 0 1,iq 49 (.loadn 4 (.s 48)),iq 50 (.call 40 [.s 47, .s 49,(ci 1)]),im 8 50]
 (sr [im 51 8,iq 52 (.eq (.one .i) true (.s 51) (ci 0))]
 (.cond (.s 52)
 (sr [im 53 8,im 2 53]
 .ret)
 .skip)))
 (.seqj [1,4]
 (sr [im 54 4,ia 55 5 1,il 56 55,iq 57 (.call 41 [.s 54, .s 56]),im 9 57]
 (sr [im 58 9,iq 59 (.eq (.one .i) true (.s 58) (ci 0))]
 (.cond (.s 59)
 (sr [im 60 9,im 2 60]
 .ret)
 .skip)))
 (.seqj [1,4]
 (sr [ia 61 4 1,il 62 61,iq 63 (.lenL (.s 62)),ik 64 0]
 (.block 2
 (.loop [1,4,62,63,64]
 (sr [iq 65 (.bin .lss (.s 64) (.s 63))]
 (.seqj [1,4,62,63,64]
 (.cond (.s 65)
 .skip
 (.exit 2))
 (.seqj [1,4,62,63,64]
 (.block 3
 (sr [iq 66 (.iaddrS 5 (.s 62) (.s 64)),iq 67 (.loadn 5 (.s 66)),iq 11 (.alloc [(ofL []),(.int .i64 0),(ofL []), .snil, .snil]),iz (.store 5 (.s 11) (.s 67))]
 (sr [iq 68 (.loadn 6 (.s 1)),ia 69 1 11,iq 70 (.loadn 4 (.s 69)),iq 71 (.call 42 [.s 68, .s 70]),iq 72 (.not (.s 71))]
 (.cond (.s 72)
 (sr [ik 2 14]
 .ret)
 .skip))))
 (.reg [iq 73 (.bin .add (.s 64) (ci 1)),im 64 73])))))))
 (.seqj []
 (sr [iq 74 (.loadn 6 (.s 1)),iq 75 (.call 44 [.s 74]),im 76 4,iq 77 (.mkfn 45 [.s 76] []),iq 78 (.call 43 [.s 75, .s 77])]
 (.cond (.s 78)
 (sr [ik 2 17]
 .ret)
 .skip))
 (sr [ik 2 0]
 .ret))))))))))}
theorem JqU :compFn Tryz.prog Tryz.f18 [[1],[1],[1,4],[1,4,33,34,35],[1,4,33,34,35],[1,4,33,34,35],[1,4],[1,4],[1,4],[1,4,62,63,64],[1,4,62,63,64],[1,4,62,63,64],[]]=some QZ:=by kernel_rfl
def Q0 :Eva.Fn:={ntmps:=39,res:=[.s 2],body:=
 (sr [ik 2 0]
 (.seqj []
 (sr [im 5 0,iq 6 (.lenL (.s 5)),ik 7 0]
 (.block 0
 (.loop [0,5,6,7]
 (sr [iq 8 (.bin .lss (.s 7) (.s 6))]
 (.seqj [0,5,6,7]
 (.cond (.s 8)
 .skip
 (.exit 0))
 (.seqj [0,5,6,7]
 (.block 1
 (sr [im 9 7,iq 10 (.iaddrS 5 (.s 5) (.s 7)),iq 11 (.loadn 5 (.s 10)),iq 4 (.alloc [(ofL []),(.int .i64 0),(ofL []), .snil, .snil]),im 3 9,iz (.store 5 (.s 4) (.s 11))]
 (.block 2
 (sr [ia 13 0 4,il 14 13,iq 15 (.call 72 [.s 14]),iq 16 (.not (.s 15)),im 17 16,ig 18 17 false (.faddr 0 (.s 4)),ig 19 17 false (.load1 (.s 18)),ig 20 17 false (.bin .add (.c (ofL [32])) (.s 19)),ig 21 17 false (.bin .add (.s 20) (.c (ofL [32]))),ig 22 17 false (.call 73 [(.c (ofL [32,66,111,111,108,32,73,110,116,32,84,101,120,116,32,76,105,115,116,32,77,97,112,32,79,112,116,32,85,110,105,111,110,32])), .s 21]),iq 23 (.pick (.s 17) (.c (.bool true)) (.s 22)),im 12 23]
 (.cond (.s 12)
 (sr [ik 2 15]
 .ret)
 (.seq
 (.drw [im 25 3,iq 26 (.bin .gtr (.s 25) (ci 0)),im 27 26,ig 28 27 true (.mv (.s 0)),ig 29 27 true (.mv (.s 3)),ig 30 27 true (.bin .sub (.s 29) (ci 1)),ig 31 27 true (.iaddrS 5 (.s 28) (.s 30)),ig 32 27 true (.faddr 0 (.s 31)),ig 33 27 true (.load1 (.s 32)),ig 34 27 true (.faddr 0 (.s 4)),ig 35 27 true (.load1 (.s 34)),ig 36 27 true (.bin .geq (.s 33) (.s 35)),iq 37 (.pick (.s 27) (.s 36) (.c (.bool false))),im 24 37] [])
 (.cond (.s 24)
 (sr [ik 2 6]
 .ret)
 .skip)))))))
 (.reg [iq 38 (.bin .add (.s 7) (ci 1)),im 7 38])))))))
 (sr [ik 2 0]
 .ret)))}
theorem JqV :compFn Tryz.prog Tryz.f38 [[],[0,5,6,7],[0,5,6,7],[0,5,6,7]]=some Q0:=by kernel_rfl
def QK :Eva.Fn:={ntmps:=23,res:=[.s 2],body:=
 (sr [iq 2 (.mv (.c (.bool false)))]
 (sr [im 3 0,iq 4 (.eq (.one .s) true (.s 3) (.c (ofL []))),im 5 4,ig 6 5 true (.mv (.s 0)),ig 7 5 true (.lenS (.s 6)),ig 8 5 true (.bin .leq (.s 7) (ci 16)),iq 9 (.pick (.s 5) (.s 8) (.c (.bool false))),im 10 9,ig 11 10 true (.mv (.s 0)),ig 12 10 true (.idxS (.s 11) (ci 0)),ig 13 10 true (.call 106 [.s 12]),ig 14 10 true (.not (.s 13)),iq 15 (.pick (.s 10) (.s 14) (.c (.bool false))),im 16 15,ig 17 16 true (.mv (.s 0)),ig 18 16 true (.call 107 [.s 17]),ig 19 16 true (.mv (.s 0)),ig 20 16 true (.lenS (.s 19)),ig 21 16 true (.eq (.one .i) false (.s 18) (.s 20)),iq 22 (.pick (.s 16) (.s 21) (.c (.bool false))),im 2 22]
 .ret))}
theorem JqW :compFn Tryz.prog Tryz.f72 []=some QK:=by kernel_rfl
def QL :Eva.Fn:={ntmps:=9,res:=[.s 2],body:=
 (sr [iq 2 (.mv (.c (.bool false)))]
 (sr [im 3 0,iq 4 (.bin .geq (.s 3) (.c (.int .u8 48))),im 5 4,ig 6 5 true (.mv (.s 0)),ig 7 5 true (.bin .leq (.s 6) (.c (.int .u8 57))),iq 8 (.pick (.s 5) (.s 7) (.c (.bool false))),im 2 8]
 .ret))}
theorem Jpo :compFn Tryz.prog Tryz.f106 []=some QL:=by kernel_rfl
def Yy :Eva.Fn:={ntmps:=5,res:=[.s 2],body:=
 (sr [ik 2 0]
 (sr [im 3 0,iq 4 (.call 127 [.s 3,(.c (.fn 128 [] []))]),im 2 4]
 .ret))}
theorem Jpp :compFn Tryz.prog Tryz.f107 []=some Yy:=by kernel_rfl
def Ya :Eva.Fn:={ntmps:=20,res:=[.s 4],body:=
 (sr [ik 4 0]
 (.seqj [0]
 (sr [im 6 0,iq 7 (.rngS (.s 6))]
 (.block 0
 (.loop [0,1,7]
 (sr [iq 8 (.nextS (.s 7)),ie 9 0 8]
 (.seqj [0,1,7,8]
 (.cond (.s 9)
 .skip
 (.exit 0))
 (.block 1
 (sr [ie 10 1 8,im 5 10]
 (sr [im 11 1,im 12 0,im 13 5,iq 14 (.idxS (.s 12) (.s 13)),iq 15 (.callv (.s 11) [.s 14]),iq 16 (.not (.s 15))]
 (.cond (.s 16)
 (sr [im 17 5,im 4 17]
 .ret)
 .skip)))))))))
 (sr [im 18 0,iq 19 (.lenS (.s 18)),im 4 19]
 .ret)))}
theorem Jpq :compFn Tryz.prog Tryz.f127 [[0],[0,1,7],[0,1,7,8]]=some Ya:=by kernel_rfl
def Yb :Eva.Fn:={ntmps:=9,res:=[.s 2],body:=
 (sr [iq 2 (.mv (.c (.bool false)))]
 (sr [im 3 0,iq 4 (.call 129 [.s 3]),im 5 4,ig 6 5 false (.mv (.s 0)),ig 7 5 false (.call 106 [.s 6]),iq 8 (.pick (.s 5) (.c (.bool true)) (.s 7)),im 2 8]
 .ret))}
theorem Jpr :compFn Tryz.prog Tryz.f128 []=some Yb:=by kernel_rfl
def KV :Eva.Fn:={ntmps:=15,res:=[.s 2],body:=
 (sr [iq 2 (.mv (.c (.bool false)))]
 (sr [im 3 0,iq 4 (.eq (.one .i) false (.s 3) (.c (.int .u8 95))),im 5 4,ig 6 5 false (.mv (.s 0)),ig 7 5 false (.bin .or (.s 6) (.c (.int .u8 32))),ig 8 5 false (.bin .geq (.s 7) (.c (.int .u8 97))),ig 9 5 false (.mv (.s 8)),ig 10 9 true (.mv (.s 0)),ig 11 9 true (.bin .or (.s 10) (.c (.int .u8 32))),ig 12 9 true (.bin .leq (.s 11) (.c (.int .u8 122))),ig 13 5 false (.pick (.s 9) (.s 12) (.c (.bool false))),iq 14 (.pick (.s 5) (.c (.bool true)) (.s 13)),im 2 14]
 .ret))}
theorem Jps :compFn Tryz.prog Tryz.f129 []=some KV:=by kernel_rfl
def Q1 :Eva.Fn:={ntmps:=21,res:=[.s 2],body:=
 (sr [iq 1 (.box (.s 0)),iq 2 (.mv (.c .mnil))]
 (sr [⟨(some 6), .mkmap,none,none⟩,im 3 6]
 (.seqj [3]
 (sr [ia 7 4 1,il 8 7,iq 9 (.lenL (.s 8)),ik 10 0]
 (.block 0
 (.loop [3,8,9,10]
 (sr [iq 11 (.bin .lss (.s 10) (.s 9))]
 (.seqj [3,8,9,10]
 (.cond (.s 11)
 .skip
 (.exit 0))
 (.seqj [3,8,9,10]
 (.block 1
 (sr [iq 12 (.iaddrS 5 (.s 8) (.s 10)),iq 13 (.loadn 5 (.s 12)),iq 5 (.alloc [(ofL []),(.int .i64 0),(ofL []), .snil, .snil]),iz (.store 5 (.s 5) (.s 13))]
 (.reg [im 14 3,ia 15 0 5,il 16 15,ia 17 1 5,iq 18 (.loadn 4 (.s 17)),iz (.mupd (.one .s) (.s 14) (.s 16) (.s 18))])))
 (.reg [iq 19 (.bin .add (.s 10) (ci 1)),im 10 19])))))))
 (sr [im 20 3,im 2 20]
 .ret))))}
theorem JqX :compFn Tryz.prog Tryz.f39 [[3],[3,8,9,10],[3,8,9,10],[3,8,9,10]]=some Q1:=by kernel_rfl
def KO :Eva.Fn:={ntmps:=113,res:=[.s 6],body:=
 (sr [iq 4 (.box (.s 1)),ik 6 0]
 (sr [im 14 0,iq 15 (.nilck (.s 14)),ia 16 1 15,il 17 16,iq 18 (.bin .add (.s 17) (ci 1)),iq 19 (.nilck (.s 14)),ia 20 1 19,iz (.store 1 (.s 20) (.s 18))]
 (.seq
 (.drw [im 22 0,iq 23 (.nilck (.s 22)),ia 24 0 23,il 25 24,ia 26 1 4,il 27 26,iq 28 (.lookup (.one .s) (.agg [(.int .i64 0),(ofL []), .snil, .snil]) true (.s 25) (.s 27)),im 21 28,ie 29 0 21,ie 30 1 21,iq 7 (.alloc [(.int .i64 0),(ofL []), .snil, .snil]),iz (.store 4 (.s 7) (.s 29)),im 8 30] [])
 (sr [ia 31 0 4,il 32 31,iq 33 (.eq (.one .i) false (.s 32) (ci 7)),im 34 33,ig 35 34 false (.faddr 0 (.s 4)),ig 36 34 false (.load1 (.s 35)),ig 37 34 false (.eq (.one .i) false (.s 36) (ci 8)),iq 38 (.pick (.s 34) (.c (.bool true)) (.s 37)),im 9 38]
 (.seqj [0,2,4]
 (.block 0
 (sr [im 40 0,iq 41 (.nilck (.s 40)),ia 42 1 41,il 43 42,iq 44 (.bin .gtr (.s 43) (ci 400)),im 39 44]
 (.cond (.s 39)
 (sr [ik 6 3]
 .ret)
 (sr [im 46 2,iq 47 (.bin .gtr (.s 46) (ci 12)),im 45 47]
 (.cond (.s 45)
 (sr [ik 6 13]
 .ret)
 (sr [ia 49 0 4,il 50 49,iq 51 (.bin .lss (.s 50) (ci 1)),im 52 51,ig 53 52 false (.faddr 0 (.s 4)),ig 54 52 false (.load1 (.s 53)),ig 55 52 false (.bin .gtr (.s 54) (ci 9)),iq 56 (.pick (.s 52) (.c (.bool true)) (.s 55)),im 48 56]
 (.cond (.s 48)
 (sr [ik 6 1]
 .ret)
 (.seq
 (.drw [ia 58 3 4,il 59 58,iq 60 (.lenL (.s 59)),iq 61 (.loadn 4 (.s 4)),⟨(some 62),(.call 74 [.s 61]),none,(some [58])⟩,iq 63 (.eq (.one .i) true (.s 60) (.s 62)),im 64 63,ig 65 64 false (.faddr 1 (.s 4)),ig 66 64 false (.load1 (.s 65)),ig 67 64 false (.eq (.one .s) true (.s 66) (.c (ofL []))),ig 68 64 false (.mv (.s 67)),ig 69 68 true (.faddr 0 (.s 4)),ig 70 68 true (.load1 (.s 69)),ig 71 68 true (.eq (.one .i) true (.s 70) (ci 9)),ig 72 64 false (.pick (.s 68) (.s 71) (.c (.bool false))),iq 73 (.pick (.s 64) (.c (.bool true)) (.s 72)),im 74 73,ig 75 74 false (.faddr 2 (.s 4)),ig 76 74 false (.load1 (.s 75)),ig 77 74 false (.lenL (.s 76)),ig 78 74 false (.bin .gtr (.s 77) (ci 0)),ig 79 74 false (.mv (.s 78)),ig 80 79 true (.mv (.s 9)),ig 81 79 true (.not (.s 80)),ig 82 74 false (.pick (.s 79) (.s 81) (.c (.bool false))),iq 83 (.pick (.s 74) (.c (.bool true)) (.s 82)),im 57 83] [])
 (.cond (.s 57)
 (sr [ik 6 12]
 .ret)
 (sr [ia 85 0 4,il 86 85,iq 87 (.eq (.one .i) false (.s 86) (ci 9)),im 88 87,ig 89 88 true (.mv (.s 8)),ig 90 88 true (.not (.s 89)),iq 91 (.pick (.s 88) (.s 90) (.c (.bool false))),im 84 91]
 (.cond (.s 84)
 (sr [ik 6 15]
 .ret)
 .skip)))))))))))
 (.seqj [0,2,4]
 (sr [iq 92 (.loadn 4 (.s 4)),iq 93 (.call 75 [.s 92]),im 10 93]
 (sr [im 94 10,iq 95 (.eq (.one .i) true (.s 94) (ci 0))]
 (.cond (.s 95)
 (sr [im 96 10,im 6 96]
 .ret)
 .skip)))
 (.seqj []
 (sr [ia 97 3 4,il 98 97,iq 99 (.lenL (.s 98)),ik 100 0]
 (.block 1
 (.loop [0,2,98,99,100]
 (sr [iq 101 (.bin .lss (.s 100) (.s 99))]
 (.seqj [0,2,98,99,100]
 (.cond (.s 101)
 .skip
 (.exit 1))
 (.seqj [0,2,98,99,100]
 (.block 2
 (sr [iq 102 (.iaddrS 4 (.s 98) (.s 100)),iq 103 (.loadn 4 (.s 102)),iq 12 (.alloc [(.int .i64 0),(ofL []), .snil, .snil]),iz (.store 4 (.s 12) (.s 103))]
 (sr [im 104 0,iq 105 (.loadn 4 (.s 12)),im 106 2,iq 107 (.bin .add (.s 106) (ci 1)),iq 108 (.call 40 [.s 104, .s 105, .s 107]),im 13 108]
 (sr [im 109 13,iq 110 (.eq (.one .i) true (.s 109) (ci 0))]
 (.cond (.s 110)
 (sr [im 111 13,im 6 111]
 .ret)
 .skip)))))
 (.reg [iq 112 (.bin .add (.s 100) (ci 1)),im 100 112])))))))
 (sr [ik 6 0]
 .ret))))))))}
theorem JqY :compFn Tryz.prog Tryz.f40 [[0,2,4],[0,2,4],[],[0,2,98,99,100],[0,2,98,99,100],[0,2,98,99,100]]=some KO:=by kernel_rfl
def KK :Eva.Fn:={ntmps:=15,res:=[.s 2],body:=
 (sr [iq 1 (.box (.s 0)),ik 2 0]
 (.seqj []
 (sr [ia 3 0 1,il 4 3]
 (.block 0
 (.seqj [1,4,5]
 (sr [iq 6 (.eq (.one .i) false (.s 4) (ci 4)),im 5 6]
 (.cond (.s 5)
 .skip
 (sr [iq 7 (.eq (.one .i) false (.s 4) (ci 5)),im 5 7]
 (.cond (.s 5)
 .skip
 (.reg [iq 8 (.eq (.one .i) false (.s 4) (ci 6)),im 5 8])))))
 (.cond (.s 5)
 (sr [ik 2 1]
 .ret)
 (.seqj [1,9]
 (sr [iq 10 (.eq (.one .i) false (.s 4) (ci 7)),im 9 10]
 (.cond (.s 9)
 .skip
 (.reg [iq 11 (.eq (.one .i) false (.s 4) (ci 8)),im 9 11])))
 (.cond (.s 9)
 (sr [ia 12 2 1,il 13 12,iq 14 (.lenL (.s 13)),im 2 14]
 .ret)
 .skip))))))
 (sr [ik 2 0]
 .ret)))}
theorem JqZ :compFn Tryz.prog Tryz.f74 [[],[1,4,5],[1,9]]=some KK:=by kernel_rfl
def Qt :Eva.Fn:={ntmps:=44,res:=[.s 2],body:=
 (sr [iq 1 (.box (.s 0)),ik 2 0]
 (.seqj [1]
 (sr [ia 5 2 1,il 6 5,iq 7 (.lenL (.s 6)),iq 8 (.bin .gtr (.s 7) (ci 8))]
 (.cond (.s 8)
 (sr [ik 2 3]
 .ret)
 .skip))
 (.seqj [1]
 (sr [ia 9 2 1,il 10 9,iq 11 (.lenL (.s 10)),ik 12 0]
 (.block 0
 (.loop [1,10,11,12]
 (sr [iq 13 (.bin .lss (.s 12) (.s 11))]
 (.seqj [1,10,11,12]
 (.cond (.s 13)
 .skip
 (.exit 0))
 (.seqj [1,10,11,12]
 (.block 1
 (sr [im 14 12,iq 15 (.iaddrS 1 (.s 10) (.s 12)),il 16 15,im 3 14,im 4 16]
 (.block 2
 (sr [im 18 4,iq 19 (.call 72 [.s 18]),iq 20 (.not (.s 19)),im 17 20]
 (.cond (.s 17)
 (sr [ik 2 15]
 .ret)
 (sr [im 22 3,iq 23 (.bin .gtr (.s 22) (ci 0)),im 24 23,ig 25 24 true (.faddr 2 (.s 1)),ig 26 24 true (.load1 (.s 25)),ig 27 24 true (.mv (.s 3)),ig 28 24 true (.bin .sub (.s 27) (ci 1)),ig 29 24 true (.iaddrS 1 (.s 26) (.s 28)),ig 30 24 true (.load1 (.s 29)),ig 31 24 true (.mv (.s 4)),ig 32 24 true (.bin .geq (.s 30) (.s 31)),iq 33 (.pick (.s 24) (.s 32) (.c (.bool false))),im 21 33]
 (.cond (.s 21)
 (sr [ik 2 6]
 .ret)
 .skip)))))))
 (.reg [iq 34 (.bin .add (.s 12) (ci 1)),im 12 34])))))))
 (.seqj []
 (sr [ia 35 0 1,il 36 35,iq 37 (.eq (.one .i) false (.s 36) (ci 8)),im 38 37,ig 39 38 true (.faddr 2 (.s 1)),ig 40 38 true (.load1 (.s 39)),ig 41 38 true (.lenL (.s 40)),ig 42 38 true (.eq (.one .i) false (.s 41) (ci 0)),iq 43 (.pick (.s 38) (.s 42) (.c (.bool false)))]
 (.cond (.s 43)
 (sr [ik 2 12]
 .ret)
 .skip))
 (sr [ik 2 0]
 .ret)))))}
theorem Jq0 :compFn Tryz.prog Tryz.f75 [[1],[1],[1,10,11,12],[1,10,11,12],[1,10,11,12],[]]=some Qt:=by kernel_rfl
def KF :Eva.Fn:={ntmps:=57,res:=[.s 4],body:=
 (sr [ik 4 0]
 (.seqj []
 (sr [im 8 1,iq 9 (.lenL (.s 8)),ik 10 0]
 (.block 0
 (.loop [0,1,8,9,10]
 (sr [iq 11 (.bin .lss (.s 10) (.s 9))]
 (.seqj [0,1,8,9,10]
 (.cond (.s 11)
 .skip
 (.exit 0))
 (.seqj [0,1,8,9,10]
 (.block 1
 (sr [im 12 10,iq 13 (.iaddrS 6 (.s 8) (.s 10)),iq 14 (.loadn 6 (.s 13)),iq 6 (.alloc [(ofL []), .snil,(.int .i64 0),(ofL []), .snil, .snil]),im 5 12,iz (.store 6 (.s 6) (.s 14))]
 (.seqj [0,1,6,8,9,10]
 (.block 2
 (sr [ia 16 0 6,il 17 16,iq 18 (.call 72 [.s 17]),iq 19 (.not (.s 18)),im 20 19,ig 21 20 false (.faddr 0 (.s 6)),ig 22 20 false (.load1 (.s 21)),ig 23 20 false (.call 76 [.s 22]),iq 24 (.pick (.s 20) (.c (.bool true)) (.s 23)),im 15 24]
 (.cond (.s 15)
 (sr [ik 4 15]
 .ret)
 (.seq
 (.drw [im 26 5,iq 27 (.bin .gtr (.s 26) (ci 0)),im 28 27,ig 29 28 true (.mv (.s 1)),ig 30 28 true (.mv (.s 5)),ig 31 28 true (.bin .sub (.s 30) (ci 1)),ig 32 28 true (.iaddrS 6 (.s 29) (.s 31)),ig 33 28 true (.faddr 0 (.s 32)),ig 34 28 true (.load1 (.s 33)),ig 35 28 true (.faddr 0 (.s 6)),ig 36 28 true (.load1 (.s 35)),ig 37 28 true (.bin .geq (.s 34) (.s 36)),iq 38 (.pick (.s 28) (.s 37) (.c (.bool false))),im 25 38] [])
 (.cond (.s 25)
 (sr [ik 4 6]
 .ret)
 (sr [ia 40 1 6,il 41 40,iq 42 (.lenL (.s 41)),iq 43 (.bin .gtr (.s 42) (ci 4)),im 39 43]
 (.cond (.s 39)
 (sr [ik 4 18]
 .ret)
 .skip)))))))
 (.seq
 (.drw [im 44 0,ia 45 1 6,il 46 45,iq 47 (.call 20 [.s 46]),ia 48 2 6,iq 49 (.loadn 4 (.s 48)),iq 50 (.bsl 4 1 [(.int .i64 0),(ofL []), .snil, .snil] [(0,4,(.s 49))]),iq 51 (.app 4 (.s 47) (.s 50)),⟨(some 52),(.call 77 [.s 44, .s 51]),none,(some [])⟩,im 7 52] [])
 (sr [im 53 7,iq 54 (.eq (.one .i) true (.s 53) (ci 0))]
 (.cond (.s 54)
 (sr [im 55 7,im 4 55]
 .ret)
 .skip))))))
 (.reg [iq 56 (.bin .add (.s 10) (ci 1)),im 10 56])))))))
 (sr [ik 4 0]
 .ret)))}
theorem Jq1 :compFn Tryz.prog Tryz.f41 [[],[0,1,8,9,10],[0,1,8,9,10],[0,1,8,9,10],[0,1,6,8,9,10]]=some KF:=by kernel_rfl
def Qy :Eva.Fn:={ntmps:=11,res:=[.s 2],body:=
 (sr [iq 2 (.mv (.c (.bool false)))]
 (sr [im 3 0,iq 4 (.call 72 [.s 3]),im 5 4,ig 6 5 true (.mv (.s 0)),ig 7 5 true (.bin .add (.c (ofL [32])) (.s 6)),ig 8 5 true (.bin .add (.s 7) (.c (ofL [32]))),ig 9 5 true (.call 73 [(.c (ofL [32,108,101,110,32,110,111,116,32,97,110,100,32,111,114,32,101,113,32,108,116,32,97,100,100,32,115,117,98,32,109,117,108,32,115,104,108,32,115,104,114,32,105,56,32,105,49,54,32,105,51,50,32,117,56,32,117,49,54,32,117,51,50,32,99,97,116,32,116,101,120,116,32,97,116,32,103,101,116,32,104,97,115,32,111,114,101,108,115,101,32])), .s 8]),iq 10 (.pick (.s 5) (.s 9) (.c (.bool false))),im 2 10]
 .ret))}
theorem Jq2 :compFn Tryz.prog Tryz.f76 []=some Qy:=by kernel_rfl
def Qa :Eva.Fn:={ntmps:=8,res:=[.s 2],body:=
 (sr [iq 2 (.mv (.c .snil))]
 (.seqj [0]
 (sr [im 3 0,iq 4 (.eq (.one .l) false (.s 3) (.c .snil))]
 (.cond (.s 4)
 (sr [iq 2 (.mv (.c .snil))]
 .ret)
 .skip))
 (sr [iq 5 (.bsl 4 0 [] []),im 6 0,iq 7 (.app 4 (.s 5) (.s 6)),im 2 7]
 .ret)))}
theorem Jq3 :compFn Tryz.prog Tryz.f20 [[0]]=some Qa:=by kernel_rfl
def Qn :Eva.Fn:={ntmps:=21,res:=[.s 4],body:=
 (sr [ik 4 0]
 (.seqj []
 (sr [im 8 1,iq 9 (.lenL (.s 8)),ik 10 0]
 (.block 0
 (.loop [0,8,9,10]
 (sr [iq 11 (.bin .lss (.s 10) (.s 9))]
 (.seqj [0,8,9,10]
 (.cond (.s 11)
 .skip
 (.exit 0))
 (.seqj [0,8,9,10]
 (.block 1
 (sr [iq 12 (.iaddrS 4 (.s 8) (.s 10)),iq 13 (.loadn 4 (.s 12)),iq 6 (.alloc [(.int .i64 0),(ofL []), .snil, .snil]),iz (.store 4 (.s 6) (.s 13))]
 (sr [im 14 0,iq 15 (.loadn 4 (.s 6)),iq 16 (.call 40 [.s 14, .s 15,(ci 1)]),im 7 16]
 (sr [im 17 7,iq 18 (.eq (.one .i) true (.s 17) (ci 0))]
 (.cond (.s 18)
 (sr [im 19 7,im 4 19]
 .ret)
 .skip)))))
 (.reg [iq 20 (.bin .add (.s 10) (ci 1)),im 10 20])))))))
 (sr [ik 4 0]
 .ret)))}
theorem Jq4 :compFn Tryz.prog Tryz.f77 [[],[0,8,9,10],[0,8,9,10],[0,8,9,10]]=some Qn:=by kernel_rfl
def JO :Eva.Fn:={ntmps:=9,res:=[.s 4],body:=
 (sr [iq 4 (.mv (.c (.bool false)))]
 (sr [im 5 0,im 6 1,iq 7 (.call 79 [.s 5, .s 6]),iq 8 (.bin .geq (.s 7) (ci 0)),im 4 8]
 .ret))}
theorem Jq5 :compFn Tryz.prog Tryz.f43 []=some JO:=by kernel_rfl
def JX :Eva.Fn:={ntmps:=19,res:=[.s 4],body:=
 (sr [ik 4 0]
 (.seqj []
 (sr [im 6 0,iq 7 (.lenL (.s 6)),ik 8 0]
 (.block 0
 (.loop [0,1,7,8]
 (sr [iq 9 (.bin .lss (.s 8) (.s 7))]
 (.seqj [0,1,7,8]
 (.cond (.s 9)
 .skip
 (.exit 0))
 (.seqj [0,1,7,8]
 (.block 1
 (sr [im 10 8,im 5 10]
 (sr [im 11 1,im 12 0,im 13 5,iq 14 (.iaddrS 4 (.s 12) (.s 13)),iq 15 (.loadn 4 (.s 14)),iq 16 (.callv (.s 11) [.s 15])]
 (.cond (.s 16)
 (sr [im 17 5,im 4 17]
 .ret)
 .skip))))
 (.reg [iq 18 (.bin .add (.s 8) (ci 1)),im 8 18])))))))
 (sr [iq 4 (.mv (.c (.int .i64 (-1))))]
 .ret)))}
theorem Jq6 :compFn Tryz.prog Tryz.f79 [[],[0,1,7,8],[0,1,7,8],[0,1,7,8]]=some JX:=by kernel_rfl
def Q2 :Eva.Fn:={ntmps:=43,res:=[.s 2],body:=
 (sr [iq 1 (.box (.s 0)),iq 2 (.mv (.c .snil))]
 (sr [iq 3 (.mv (.c .snil))]
 (.seqj [1,3]
 (sr [ia 8 4 1,il 9 8,iq 10 (.lenL (.s 9)),ik 11 0]
 (.block 0
 (.loop [1,3,9,10,11]
 (sr [iq 12 (.bin .lss (.s 11) (.s 10))]
 (.seqj [1,3,9,10,11]
 (.cond (.s 12)
 .skip
 (.exit 0))
 (.seqj [1,3,9,10,11]
 (.block 1
 (sr [iq 13 (.iaddrS 5 (.s 9) (.s 11)),iq 14 (.loadn 5 (.s 13)),iq 5 (.alloc [(ofL []),(.int .i64 0),(ofL []), .snil, .snil]),iz (.store 5 (.s 5) (.s 14))]
 (.reg [im 15 3,ia 16 1 5,iq 17 (.loadn 4 (.s 16)),iq 18 (.bsl 4 1 [(.int .i64 0),(ofL []), .snil, .snil] [(0,4,(.s 17))]),iq 19 (.app 4 (.s 15) (.s 18)),im 3 19])))
 (.reg [iq 20 (.bin .add (.s 11) (ci 1)),im 11 20])))))))
 (sr [im 21 3,ia 22 0 1,iq 23 (.loadn 4 (.s 22)),iq 24 (.bsl 4 1 [(.int .i64 0),(ofL []), .snil, .snil] [(0,4,(.s 23))]),iq 25 (.app 4 (.s 21) (.s 24)),im 3 25]
 (.seqj [3]
 (sr [ia 26 5 1,il 27 26,iq 28 (.lenL (.s 27)),ik 29 0]
 (.block 2
 (.loop [3,27,28,29]
 (sr [iq 30 (.bin .lss (.s 29) (.s 28))]
 (.seqj [3,27,28,29]
 (.cond (.s 30)
 .skip
 (.exit 2))
 (.seqj [3,27,28,29]
 (.block 3
 (sr [iq 31 (.iaddrS 6 (.s 27) (.s 29)),iq 32 (.loadn 6 (.s 31)),iq 7 (.alloc [(ofL []), .snil,(.int .i64 0),(ofL []), .snil, .snil]),iz (.store 6 (.s 7) (.s 32))]
 (.drw [im 33 3,ia 34 1 7,il 35 34,iq 36 (.app 4 (.s 33) (.s 35)),ia 37 2 7,iq 38 (.loadn 4 (.s 37)),iq 39 (.bsl 4 1 [(.int .i64 0),(ofL []), .snil, .snil] [(0,4,(.s 38))]),iq 40 (.app 4 (.s 36) (.s 39)),im 3 40] [([33],[37])])))
 (.reg [iq 41 (.bin .add (.s 29) (ci 1)),im 29 41])))))))
 (sr [im 42 3,im 2 42]
 .ret))))))}
theorem Jq7 :compFn Tryz.prog Tryz.f44 [[1,3],[1,3,9,10,11],[1,3,9,10,11],[1,3,9,10,11],[3],[3,27,28,29],[3,27,28,29],[3,27,28,29]]=some Q2:=by kernel_rfl
def KG :Eva.Fn:={ntmps:=45,res:=[.s 4],body:=
 (sr [iq 3 (.box (.s 1)),iq 4 (.mv (.c (.bool false)))]
 (.seqj [0,3]
 (sr [ia 6 0 3,il 7 6,iq 8 (.eq (.one .i) false (.s 7) (ci 6)),im 9 8,ig 10 9 true (.faddr 3 (.s 3)),ig 11 9 true (.load1 (.s 10)),ig 12 9 true (.lenL (.s 11)),ig 13 9 true (.eq (.one .i) false (.s 12) (ci 1)),iq 14 (.pick (.s 9) (.s 13) (.c (.bool false)))]
 (.cond (.s 14)
 (sr [ia 15 3 3,il 16 15,iq 17 (.iaddrS 4 (.s 16) (ci 0)),iq 18 (.loadn 4 (.s 17)),iq 5 (.alloc [(.int .i64 0),(ofL []), .snil, .snil]),iz (.store 4 (.s 5) (.s 18))]
 (.seqj [0,3,5]
 (sr [im 19 0,iq 20 (.nilck (.s 19)),ia 21 0 20,il 22 21,iq 23 (.rngM (.s 22))]
 (.block 0
 (.loop [0,3,5,23]
 (sr [iq 24 (.nextM (.s 23)),ie 25 0 24]
 (.seqj [0,3,5,23]
 (.cond (.s 25)
 .skip
 (.exit 0))
 (.block 1
 (sr [ia 27 0 5,il 28 27,iq 29 (.eq (.one .i) false (.s 28) (ci 9))]
 (.cond (.s 29)
 (.drw [im 30 0,iq 31 (.nilck (.s 30)),ia 32 0 31,il 33 32,ia 34 1 5,il 35 34,iq 36 (.lookup (.one .s) (.agg [(.int .i64 0),(ofL []), .snil, .snil]) false (.s 33) (.s 35)),iz (.store 4 (.s 5) (.s 36))] [])
 .skip))))))))
 (sr [ia 37 0 5,il 38 37,iq 39 (.eq (.one .i) false (.s 38) (ci 6))]
 (.cond (.s 39)
 (sr [iq 4 (.mv (.c (.bool true)))]
 .ret)
 .skip))))
 .skip))
 (sr [ia 40 3 3,il 41 40,im 42 0,iq 43 (.mkfn 45 [.s 42] []),iq 44 (.call 43 [.s 41, .s 43]),im 4 44]
 .ret)))}
theorem Jq8 :compFn Tryz.prog Tryz.f45 [[0,3],[0,3,5],[0,3,5,23],[0,3,5,23]]=some KG:=by kernel_rfl
def Qf :Eva.Fn:={ntmps:=12,res:=[.s 4, .s 5],body:=
 (sr [iq 3 (.box (.s 1)),ik 4 0,ik 5 0]
 (sr [iq 6 (.alloc [(.int .i64 0)]),iz (.store 1 (.s 6) (ci 400))]
 (sr [im 7 0,iq 8 (.loadn 4 (.s 3)),iq 9 (.call 46 [.s 7, .s 8, .s 6]),ie 10 0 9,ie 11 1 9,im 4 10,im 5 11]
 .ret)))}
theorem Jq9 :compFn Tryz.prog Tryz.f19 []=some Qf:=by kernel_rfl
def Kf :Eva.Fn:={ntmps:=70,res:=[.s 6, .s 7],body:=
 (sr [iq 4 (.box (.s 1)),ik 6 0,ik 7 0]
 (sr [im 13 2,iq 14 (.nilck (.s 13)),il 15 14,iq 16 (.bin .sub (.s 15) (ci 1)),iq 17 (.nilck (.s 13)),iz (.store 1 (.s 17) (.s 16))]
 (.seqj [0,2,4]
 (sr [im 18 2,iq 19 (.nilck (.s 18)),il 20 19,iq 21 (.bin .lss (.s 20) (ci 0)),im 22 21,ig 23 22 false (.faddr 3 (.s 4)),ig 24 22 false (.load1 (.s 23)),ig 25 22 false (.lenL (.s 24)),ig 26 22 false (.bin .gtr (.s 25) (ci 8)),iq 27 (.pick (.s 22) (.c (.bool true)) (.s 26)),im 28 27,ig 29 28 false (.faddr 2 (.s 4)),ig 30 28 false (.load1 (.s 29)),ig 31 28 false (.lenL (.s 30)),ig 32 28 false (.bin .gtr (.s 31) (ci 8)),iq 33 (.pick (.s 28) (.c (.bool true)) (.s 32))]
 (.cond (.s 33)
 (sr [ik 6 0,ik 7 20]
 .ret)
 .skip))
 (sr [ia 34 0 4,il 35 34,ia 36 1 4,il 37 36,ia 38 2 4,il 39 38,iq 40 (.build [(.int .i64 0),(ofL []), .snil, .snil] [(0,1,(.s 35)),(1,1,(.s 37)),(2,1,(.s 39))]),iq 8 (.alloc [(.int .i64 0),(ofL []), .snil, .snil]),iz (.store 4 (.s 8) (.s 40))]
 (.seqj [0,8]
 (sr [ia 41 3 4,il 42 41,iq 43 (.lenL (.s 42)),ik 44 0]
 (.block 0
 (.loop [0,2,8,42,43,44]
 (sr [iq 45 (.bin .lss (.s 44) (.s 43))]
 (.seqj [0,2,8,42,43,44]
 (.cond (.s 45)
 .skip
 (.exit 0))
 (.seqj [0,2,8,42,43,44]
 (.block 1
 (sr [iq 46 (.iaddrS 4 (.s 42) (.s 44)),iq 47 (.loadn 4 (.s 46)),iq 10 (.alloc [(.int .i64 0),(ofL []), .snil, .snil]),iz (.store 4 (.s 10) (.s 47))]
 (sr [im 49 0,iq 50 (.loadn 4 (.s 10)),im 51 2,iq 52 (.call 46 [.s 49, .s 50, .s 51]),im 48 52,ie 53 0 48,ie 54 1 48,im 11 53,im 12 54]
 (.seqj [0,2,8,11,42,43,44]
 (sr [im 55 12,iq 56 (.eq (.one .i) true (.s 55) (ci 0))]
 (.cond (.s 56)
 (sr [im 57 12,ik 6 0,im 7 57]
 .ret)
 .skip))
 (.reg [ia 58 3 8,il 59 58,im 60 11,iq 61 (.bsl 1 1 [(.int .i64 0)] [(0,1,(.s 60))]),iq 62 (.app 1 (.s 59) (.s 61)),ia 63 3 8,iz (.store 1 (.s 63) (.s 62))])))))
 (.reg [iq 64 (.bin .add (.s 44) (ci 1)),im 44 64])))))))
 (sr [im 65 0,iq 66 (.loadn 4 (.s 8)),iq 67 (.call 80 [.s 65, .s 66]),ie 68 0 67,ie 69 1 67,im 6 68,im 7 69]
 .ret))))))}
theorem Jra :compFn Tryz.prog Tryz.f46 [[0,2,4],[0,8],[0,2,8,42,43,44],[0,2,8,42,43,44],[0,2,8,42,43,44],[0,2,8,11,42,43,44]]=some Kf:=by kernel_rfl
def KT :Eva.Fn:={ntmps:=76,res:=[.s 4, .s 5],body:=
 (sr [iq 3 (.box (.s 1)),ik 4 0,ik 5 0]
 (sr [iq 9 (.loadn 4 (.s 3)),iq 10 (.call 111 [.s 9]),iq 6 (.alloc [(.int .i64 0),(.int .i64 0),(.int .i64 0),(ofL []),(ofL []),(ofL []),(ofL []),(ofL []),(ofL []),(ofL []),(ofL []),(ofL []),(.int .i64 0),(.int .i64 0),(.int .i64 0),(.int .i64 0),(.int .i64 0),(.int .i64 0),(.int .i64 0),(.int .i64 0)]),iz (.store 20 (.s 6) (.s 10))]
 (.seqj [0,3,6]
 (.seq
 (.drw [im 12 0,iq 13 (.nilck (.s 12)),ia 14 1 13,il 15 14,iq 16 (.loadn 20 (.s 6)),iq 17 (.lookup (.many [.i, .i, .i, .s, .s, .s, .s, .s, .s, .s, .s, .s, .i, .i, .i, .i, .i, .i, .i, .i]) (.int .i64 0) true (.s 15) (.s 16)),im 11 17,ie 18 0 11,ie 19 1 11,im 7 18,im 8 19] [])
 (.seq
 (.drw [im 20 8,im 21 20,ig 22 21 true (.mv (.s 0)),ig 23 21 true (.nilck (.s 22)),ig 24 21 true (.faddr 0 (.s 23)),ig 25 21 true (.load1 (.s 24)),ig 26 21 true (.mv (.s 7)),ig 27 21 true (.iaddrS 4 (.s 25) (.s 26)),ig 28 21 true (.loadn 4 (.s 27)),ig 29 21 true (.call 111 [.s 28]),ig 30 21 true (.fld 12 (some 8) (.s 29)),ig 31 21 true (.faddr 12 (.s 6)),ig 32 21 true (.loadn 8 (.s 31)),ig 33 21 true (.eq (.many [.i, .i, .i, .i, .i, .i, .i, .i]) false (.s 30) (.s 32)),iq 34 (.pick (.s 21) (.s 33) (.c (.bool false)))] [])
 (.cond (.s 34)
 (sr [im 35 7,im 4 35,ik 5 0]
 .ret)
 .skip)))
 (.seqj [0,3,6]
 (sr [im 36 0,iq 37 (.nilck (.s 36)),ia 38 0 37,il 39 38,iq 40 (.lenL (.s 39)),iq 41 (.bin .geq (.s 40) (ci 120))]
 (.cond (.s 41)
 (sr [ik 4 0,ik 5 20]
 .ret)
 .skip))
 (.seq
 (.drw [ia 42 2 3,il 43 42,iq 44 (.call 112 [.s 43]),ia 45 3 3,il 46 45,⟨(some 47),(.call 113 [.s 46]),none,(some [])⟩,ia 48 2 3,iz (.store 1 (.s 48) (.s 44)),ia 49 3 3,iz (.store 1 (.s 49) (.s 47))] [])
 (.seq
 (.drw [im 50 0,iq 51 (.nilck (.s 50)),ia 52 1 51,il 53 52,iq 54 (.loadn 20 (.s 6)),im 55 0,iq 56 (.nilck (.s 55)),ia 57 0 56,il 58 57,iq 59 (.lenL (.s 58)),iz (.mupd (.many [.i, .i, .i, .s, .s, .s, .s, .s, .s, .s, .s, .s, .i, .i, .i, .i, .i, .i, .i, .i]) (.s 53) (.s 54) (.s 59))] [])
 (.seq
 (.drw [im 60 0,im 61 0,iq 62 (.nilck (.s 61)),ia 63 0 62,il 64 63,iq 65 (.loadn 4 (.s 3)),iq 66 (.bsl 4 1 [(.int .i64 0),(ofL []), .snil, .snil] [(0,4,(.s 65))]),iq 67 (.app 4 (.s 64) (.s 66)),iq 68 (.nilck (.s 60)),ia 69 0 68,iz (.store 1 (.s 69) (.s 67))] [])
 (sr [im 70 0,iq 71 (.nilck (.s 70)),ia 72 0 71,il 73 72,iq 74 (.lenL (.s 73)),iq 75 (.bin .sub (.s 74) (ci 1)),im 4 75,ik 5 0]
 .ret))))))))}
theorem Jrb :compFn Tryz.prog Tryz.f80 [[0,3,6],[0,3,6]]=some KT:=by kernel_rfl
def Yc :Eva.Fn:={ntmps:=26,res:=[(.cn 2 20)],body:=
 (sr [iq 1 (.box (.s 0)),iq 2 (.alloc [(.int .i64 0),(.int .i64 0),(.int .i64 0),(ofL []),(ofL []),(ofL []),(ofL []),(ofL []),(ofL []),(ofL []),(ofL []),(ofL []),(.int .i64 0),(.int .i64 0),(.int .i64 0),(.int .i64 0),(.int .i64 0),(.int .i64 0),(.int .i64 0),(.int .i64 0)])]
 (sr [ia 4 0 1,il 5 4,ia 6 2 1,il 7 6,iq 8 (.lenL (.s 7)),ia 9 3 1,il 10 9,iq 11 (.lenL (.s 10)),ia 12 1 1,il 13 12,iq 14 (.build [(.int .i64 0),(.int .i64 0),(.int .i64 0),(ofL []),(ofL []),(ofL []),(ofL []),(ofL []),(ofL []),(ofL []),(ofL []),(ofL []),(.int .i64 0),(.int .i64 0),(.int .i64 0),(.int .i64 0),(.int .i64 0),(.int .i64 0),(.int .i64 0),(.int .i64 0)] [(0,1,(.s 5)),(1,1,(.s 8)),(2,1,(.s 11)),(3,1,(.s 13))]),iq 3 (.alloc [(.int .i64 0),(.int .i64 0),(.int .i64 0),(ofL []),(ofL []),(ofL []),(ofL []),(ofL []),(ofL []),(ofL []),(ofL []),(ofL []),(.int .i64 0),(.int .i64 0),(.int .i64 0),(.int .i64 0),(.int .i64 0),(.int .i64 0),(.int .i64 0),(.int .i64 0)]),iz (.store 20 (.s 3) (.s 14))]
 (.seq
 (.drw [ia 15 4 3,iq 16 (.cutA 8 1 (.s 15) none none none),ia 17 2 1,il 18 17,iq 19 (.copy 1 (.s 16) (.s 18))] [])
 (.seq
 (.drw [ia 20 12 3,iq 21 (.cutA 8 1 (.s 20) none none none),ia 22 3 1,il 23 22,iq 24 (.copy 1 (.s 21) (.s 23))] [])
 (sr [iq 25 (.loadn 20 (.s 3)),iz (.store 20 (.s 2) (.s 25))]
 .ret)))))}
theorem Jpt :compFn Tryz.prog Tryz.f111 []=some Yc:=by kernel_rfl
def JP :Eva.Fn:={ntmps:=8,res:=[.s 2],body:=
 (sr [iq 2 (.mv (.c .snil))]
 (.seqj [0]
 (sr [im 3 0,iq 4 (.eq (.one .l) false (.s 3) (.c .snil))]
 (.cond (.s 4)
 (sr [iq 2 (.mv (.c .snil))]
 .ret)
 .skip))
 (sr [iq 5 (.bsl 1 0 [] []),im 6 0,iq 7 (.app 1 (.s 5) (.s 6)),im 2 7]
 .ret)))}
theorem Jpu :compFn Tryz.prog Tryz.f112 [[0]]=some JP:=by kernel_rfl
def J9 :Eva.Fn:={ntmps:=8,res:=[.s 2],body:=
 (sr [iq 2 (.mv (.c .snil))]
 (.seqj [0]
 (sr [im 3 0,iq 4 (.eq (.one .l) false (.s 3) (.c .snil))]
 (.cond (.s 4)
 (sr [iq 2 (.mv (.c .snil))]
 .ret)
 .skip))
 (sr [iq 5 (.bsl 1 0 [] []),im 6 0,iq 7 (.app 1 (.s 5) (.s 6)),im 2 7]
 .ret)))}
theorem Jpv :compFn Tryz.prog Tryz.f113 [[0]]=some J9:=by kernel_rfl
def Qz :Eva.Fn:={ntmps:=140,res:=[.s 2, .s 3],body:=
 (sr [iq 1 (.box (.s 0)),iq 2 (.mv (.c .pnil)),ik 3 0]
 (.seqj [1]
 (sr [iq 13 (.loadn 6 (.s 1)),iq 14 (.call 21 [.s 13]),iq 15 (.eq (.one .i) true (.s 14) (ci 0))]
 (.cond (.s 15)
 (sr [iq 16 (.loadn 6 (.s 1)),iq 17 (.call 21 [.s 16]),iq 2 (.mv (.c .pnil)),im 3 17]
 .ret)
 .skip))
 (sr [iq 18 (.loadn 6 (.s 1)),iq 19 (.build [.snil, .snil,(.int .i64 0),(ofL []), .snil, .snil, .snil, .snil, .snil,(.int .i64 0), .snil] [(2,6,(.s 18))]),iq 20 (.box (.s 19)),im 4 20]
 (.seqj [1,4]
 (sr [ik 5 0]
 (.block 0
 (.loop [1,4,5]
 (.seqj [1,4,5]
 (sr [im 21 5,ia 22 4 1,il 23 22,iq 24 (.lenL (.s 23)),iq 25 (.bin .lss (.s 21) (.s 24))]
 (.cond (.s 25)
 .skip
 (.exit 0)))
 (.seqj [1,4,5]
 (.block 1
 (sr [im 29 4,ia 30 4 1,il 31 30,im 32 5,iq 33 (.iaddrS 5 (.s 31) (.s 32)),ia 34 1 33,iq 35 (.loadn 4 (.s 34)),iq 36 (.call 22 [.s 29, .s 35]),im 28 36,ie 37 0 28,ie 38 1 28,im 6 37,im 7 38]
 (.seqj [1,4,5,6]
 (sr [im 39 7,iq 40 (.eq (.one .i) true (.s 39) (ci 0))]
 (.cond (.s 40)
 (sr [im 41 7,iq 2 (.mv (.c .pnil)),im 3 41]
 .ret)
 .skip))
 (.reg [im 42 4,im 43 4,iq 44 (.nilck (.s 43)),ia 45 8 44,il 46 45,im 47 6,iq 48 (.bsl 1 1 [(.int .i64 0)] [(0,1,(.s 47))]),iq 49 (.app 1 (.s 46) (.s 48)),iq 50 (.nilck (.s 42)),ia 51 8 50,iz (.store 1 (.s 51) (.s 49))]))))
 (.reg [im 26 5,iq 27 (.bin .add (.s 26) (ci 1)),im 5 27]))))))
 (sr [im 53 4,ia 54 0 1,iq 55 (.loadn 4 (.s 54)),iq 56 (.call 22 [.s 53, .s 55]),im 52 56,ie 57 0 52,ie 58 1 52,im 8 57,im 9 58]
 (.seqj [1,4,8]
 (sr [im 59 9,iq 60 (.eq (.one .i) true (.s 59) (ci 0))]
 (.cond (.s 60)
 (sr [im 61 9,iq 2 (.mv (.c .pnil)),im 3 61]
 .ret)
 .skip))
 (sr [im 62 4,im 63 8,iq 64 (.nilck (.s 62)),ia 65 9 64,iz (.store 1 (.s 65) (.s 63))]
 (.seqj [4]
 (sr [ik 10 0]
 (.block 2
 (.loop [1,4,10]
 (.seqj [1,4,10]
 (sr [im 66 10,ia 67 5 1,il 68 67,iq 69 (.lenL (.s 68)),iq 70 (.bin .lss (.s 66) (.s 69))]
 (.cond (.s 70)
 .skip
 (.exit 2)))
 (.seqj [1,4,10]
 (.block 3
 (sr [ia 73 5 1,il 74 73,im 75 10,iq 76 (.iaddrS 6 (.s 74) (.s 75)),ia 77 0 76,il 78 77,iq 79 (.build [(ofL []), .snil,(.int .i64 0)] [(0,1,(.s 78))]),iq 11 (.alloc [(ofL []), .snil,(.int .i64 0)]),iz (.store 3 (.s 11) (.s 79))]
 (.seqj [1,4,10,11]
 (sr [ik 12 0]
 (.block 4
 (.loop [1,4,10,11,12]
 (.seqj [1,4,10,11,12]
 (sr [im 80 12,ia 81 5 1,il 82 81,im 83 10,iq 84 (.iaddrS 6 (.s 82) (.s 83)),ia 85 1 84,il 86 85,iq 87 (.lenL (.s 86)),iq 88 (.bin .lss (.s 80) (.s 87))]
 (.cond (.s 88)
 .skip
 (.exit 4)))
 (.seqj [1,4,10,11,12]
 (.block 5
 (sr [im 92 4,ia 93 5 1,il 94 93,im 95 10,iq 96 (.iaddrS 6 (.s 94) (.s 95)),ia 97 1 96,il 98 97,im 99 12,iq 100 (.iaddrS 4 (.s 98) (.s 99)),iq 101 (.loadn 4 (.s 100)),iq 102 (.call 22 [.s 92, .s 101]),im 91 102,ie 103 0 91,ie 104 1 91,im 8 103,im 9 104]
 (.seqj [1,4,8,10,11,12]
 (sr [im 105 9,iq 106 (.eq (.one .i) true (.s 105) (ci 0))]
 (.cond (.s 106)
 (sr [im 107 9,iq 2 (.mv (.c .pnil)),im 3 107]
 .ret)
 .skip))
 (.reg [ia 108 1 11,il 109 108,im 110 8,iq 111 (.bsl 1 1 [(.int .i64 0)] [(0,1,(.s 110))]),iq 112 (.app 1 (.s 109) (.s 111)),ia 113 1 11,iz (.store 1 (.s 113) (.s 112))]))))
 (.reg [im 89 12,iq 90 (.bin .add (.s 89) (ci 1)),im 12 90]))))))
 (sr [im 115 4,ia 116 5 1,il 117 116,im 118 10,iq 119 (.iaddrS 6 (.s 117) (.s 118)),ia 120 2 119,iq 121 (.loadn 4 (.s 120)),iq 122 (.call 22 [.s 115, .s 121]),im 114 122,ie 123 0 114,ie 124 1 114,ia 125 2 11,iz (.store 1 (.s 125) (.s 123)),im 9 124]
 (.seqj [1,4,10,11]
 (sr [im 126 9,iq 127 (.eq (.one .i) true (.s 126) (ci 0))]
 (.cond (.s 127)
 (sr [im 128 9,iq 2 (.mv (.c .pnil)),im 3 128]
 .ret)
 .skip))
 (.drw [im 129 4,im 130 4,iq 131 (.nilck (.s 130)),ia 132 10 131,il 133 132,iq 134 (.loadn 3 (.s 11)),iq 135 (.bsl 3 1 [(ofL []), .snil,(.int .i64 0)] [(0,3,(.s 134))]),iq 136 (.app 3 (.s 133) (.s 135)),iq 137 (.nilck (.s 129)),ia 138 10 137,iz (.store 1 (.s 138) (.s 136))] []))))))
 (.reg [im 71 10,iq 72 (.bin .add (.s 71) (ci 1)),im 10 72]))))))
 (sr [im 139 4,im 2 139,ik 3 0]
 .ret)))))))))}
theorem Jrc :compFn Tryz.prog Tryz.f13 [[1],[1,4],[1,4,5],[1,4,5],[1,4,5],[1,4,5,6],[1,4,8],[4],[1,4,10],[1,4,10],[1,4,10],[1,4,10,11],[1,4,10,11,12],[1,4,10,11,12],[1,4,10,11,12],[1,4,8,10,11,12],[1,4,10,11]]=some Qz:=by kernel_rfl
def KX :Eva.Fn:={ntmps:=182,res:=[.s 2],body:=
 (sr [iq 1 (.box (.s 0)),ik 2 0]
 (.seqj [1]
 (sr [ia 12 4 1,il 13 12,iq 14 (.lenL (.s 13)),iq 15 (.bin .gtr (.s 14) (ci 12)),im 16 15,ig 17 16 false (.faddr 5 (.s 1)),ig 18 16 false (.load1 (.s 17)),ig 19 16 false (.lenL (.s 18)),ig 20 16 false (.bin .gtr (.s 19) (ci 12)),iq 21 (.pick (.s 16) (.c (.bool true)) (.s 20))]
 (.cond (.s 21)
 (sr [ik 2 3]
 .ret)
 .skip))
 (.seqj [1]
 (sr [ik 3 0]
 (.block 0
 (.loop [1,3]
 (.seqj [1,3]
 (sr [im 22 3,ia 23 4 1,il 24 23,iq 25 (.lenL (.s 24)),iq 26 (.bin .lss (.s 22) (.s 25))]
 (.cond (.s 26)
 .skip
 (.exit 0)))
 (.seqj [1,3]
 (.block 1
 (.seqj [1,3]
 (sr [ia 29 4 1,il 30 29,im 31 3,iq 32 (.iaddrS 5 (.s 30) (.s 31)),ia 33 0 32,il 34 33,iq 35 (.call 47 [.s 34]),iq 36 (.not (.s 35)),im 37 36,ig 38 37 false (.faddr 4 (.s 1)),ig 39 37 false (.load1 (.s 38)),ig 40 37 false (.mv (.s 3)),ig 41 37 false (.iaddrS 5 (.s 39) (.s 40)),ig 42 37 false (.faddr 0 (.s 41)),ig 43 37 false (.load1 (.s 42)),ig 44 37 false (.call 48 [.s 43]),iq 45 (.pick (.s 37) (.c (.bool true)) (.s 44))]
 (.cond (.s 45)
 (sr [ik 2 15]
 .ret)
 .skip))
 (.seq
 (.drw [im 46 3,iq 47 (.bin .gtr (.s 46) (ci 0)),im 48 47,ig 49 48 true (.faddr 4 (.s 1)),ig 50 48 true (.load1 (.s 49)),ig 51 48 true (.mv (.s 3)),ig 52 48 true (.iaddrS 5 (.s 50) (.s 51)),ig 53 48 true (.faddr 0 (.s 52)),ig 54 48 true (.load1 (.s 53)),ig 55 48 true (.faddr 4 (.s 1)),ig 56 48 true (.load1 (.s 55)),ig 57 48 true (.mv (.s 3)),ig 58 48 true (.bin .sub (.s 57) (ci 1)),ig 59 48 true (.iaddrS 5 (.s 56) (.s 58)),ig 60 48 true (.faddr 0 (.s 59)),ig 61 48 true (.load1 (.s 60)),ig 62 48 true (.bin .leq (.s 54) (.s 61)),iq 63 (.pick (.s 48) (.s 62) (.c (.bool false)))] [])
 (.cond (.s 63)
 (sr [ik 2 6]
 .ret)
 .skip))))
 (.reg [im 27 3,iq 28 (.bin .add (.s 27) (ci 1)),im 3 28]))))))
 (sr [iq 64 (.loadn 6 (.s 1)),iq 65 (.build [(.int .i64 0),(ofL []), .snil, .snil, .snil, .snil,(.int .i64 0)] [(0,6,(.s 64))]),iq 66 (.box (.s 65)),im 4 66]
 (sr [ik 5 0]
 (.seqj [1,4,5]
 (sr [ik 6 0]
 (.block 2
 (.loop [1,4,5,6]
 (.seqj [1,4,6]
 (sr [im 67 6,ia 68 4 1,il 69 68,iq 70 (.lenL (.s 69)),iq 71 (.bin .lss (.s 67) (.s 70)),im 72 71,ig 73 72 true (.mv (.s 5)),ig 74 72 true (.eq (.one .i) false (.s 73) (ci 0)),iq 75 (.pick (.s 72) (.s 74) (.c (.bool false)))]
 (.cond (.s 75)
 .skip
 (.exit 2)))
 (.seqj [1,4,5,6]
 (.block 3
 (.reg [im 78 4,ia 79 4 1,il 80 79,im 81 6,iq 82 (.iaddrS 5 (.s 80) (.s 81)),ia 83 1 82,iq 84 (.loadn 4 (.s 83)),iq 85 (.call 49 [.s 78, .s 84,(ci 1)]),im 5 85]))
 (.reg [im 76 6,iq 77 (.bin .add (.s 76) (ci 1)),im 6 77]))))))
 (.seqj [1,4,5]
 (sr [im 86 5,iq 87 (.eq (.one .i) false (.s 86) (ci 0))]
 (.cond (.s 87)
 (.reg [im 88 4,ia 89 0 1,iq 90 (.loadn 4 (.s 89)),iq 91 (.call 49 [.s 88, .s 90,(ci 1)]),im 5 91])
 .skip))
 (.seqj [1,4,5]
 (sr [im 92 5,iq 93 (.eq (.one .i) true (.s 92) (ci 0))]
 (.cond (.s 93)
 (sr [im 94 5,im 2 94]
 .ret)
 .skip))
 (.seqj [1]
 (sr [ik 7 0]
 (.block 4
 (.loop [1,4,5,7]
 (.seqj [1,4,5,7]
 (sr [im 95 7,ia 96 5 1,il 97 96,iq 98 (.lenL (.s 97)),iq 99 (.bin .lss (.s 95) (.s 98))]
 (.cond (.s 99)
 .skip
 (.exit 4)))
 (.seqj [1,4,5,7]
 (.block 5
 (sr [ia 102 5 1,il 103 102,im 104 7,iq 105 (.iaddrS 6 (.s 103) (.s 104)),iq 106 (.loadn 6 (.s 105)),iq 8 (.alloc [(ofL []), .snil,(.int .i64 0),(ofL []), .snil, .snil]),iz (.store 6 (.s 8) (.s 106))]
 (.seqj [1,4,5,7,8]
 (sr [ia 107 0 8,il 108 107,iq 109 (.call 47 [.s 108]),iq 110 (.not (.s 109)),im 111 110,ig 112 111 false (.faddr 0 (.s 8)),ig 113 111 false (.load1 (.s 112)),ig 114 111 false (.call 50 [.s 113]),iq 115 (.pick (.s 111) (.c (.bool true)) (.s 114))]
 (.cond (.s 115)
 (sr [ik 2 15]
 .ret)
 .skip))
 (.seqj [1,4,5,7,8]
 (.seq
 (.drw [im 116 7,iq 117 (.bin .gtr (.s 116) (ci 0)),im 118 117,ig 119 118 true (.faddr 0 (.s 8)),ig 120 118 true (.load1 (.s 119)),ig 121 118 true (.faddr 5 (.s 1)),ig 122 118 true (.load1 (.s 121)),ig 123 118 true (.mv (.s 7)),ig 124 118 true (.bin .sub (.s 123) (ci 1)),ig 125 118 true (.iaddrS 6 (.s 122) (.s 124)),ig 126 118 true (.faddr 0 (.s 125)),ig 127 118 true (.load1 (.s 126)),ig 128 118 true (.bin .leq (.s 120) (.s 127)),iq 129 (.pick (.s 118) (.s 128) (.c (.bool false)))] [])
 (.cond (.s 129)
 (sr [ik 2 6]
 .ret)
 .skip))
 (.seqj [1,4,5,7,8]
 (sr [ia 130 1 8,il 131 130,iq 132 (.lenL (.s 131)),iq 133 (.bin .gtr (.s 132) (ci 4))]
 (.cond (.s 133)
 (sr [ik 2 18]
 .ret)
 .skip))
 (.seqj [1,4,5,7,8]
 (sr [ik 9 0]
 (.block 6
 (.loop [1,4,5,7,8,9]
 (.seqj [1,4,7,8,9]
 (sr [im 134 9,ia 135 1 8,il 136 135,iq 137 (.lenL (.s 136)),iq 138 (.bin .lss (.s 134) (.s 137)),im 139 138,ig 140 139 true (.mv (.s 5)),ig 141 139 true (.eq (.one .i) false (.s 140) (ci 0)),iq 142 (.pick (.s 139) (.s 141) (.c (.bool false)))]
 (.cond (.s 142)
 .skip
 (.exit 6)))
 (.seqj [1,4,5,7,8,9]
 (.block 7
 (.reg [im 145 4,ia 146 1 8,il 147 146,im 148 9,iq 149 (.iaddrS 4 (.s 147) (.s 148)),iq 150 (.loadn 4 (.s 149)),iq 151 (.call 49 [.s 145, .s 150,(ci 1)]),im 5 151]))
 (.reg [im 143 9,iq 144 (.bin .add (.s 143) (ci 1)),im 9 144]))))))
 (.seqj [1,4,5,7]
 (sr [im 152 5,iq 153 (.eq (.one .i) false (.s 152) (ci 0))]
 (.cond (.s 153)
 (.reg [im 154 4,ia 155 2 8,iq 156 (.loadn 4 (.s 155)),iq 157 (.call 49 [.s 154, .s 156,(ci 1)]),im 5 157])
 .skip))
 (sr [im 158 5,iq 159 (.eq (.one .i) true (.s 158) (ci 0))]
 (.cond (.s 159)
 (sr [im 160 5,im 2 160]
 .ret)
 .skip)))))))))
 (.reg [im 100 7,iq 101 (.bin .add (.s 100) (ci 1)),im 7 101]))))))
 (.seqj [1]
 (.seq
 (.drw [iq 161 (.loadn 6 (.s 1)),iq 162 (.call 51 [.s 161]),iq 163 (.lenL (.s 162)),ia 164 4 1,il 165 164,iq 166 (.lenL (.s 165)),iq 167 (.eq (.one .i) true (.s 163) (.s 166))] [])
 (.cond (.s 167)
 (sr [ik 2 14]
 .ret)
 .skip))
 (sr [iq 168 (.loadn 6 (.s 1)),iq 169 (.call 52 [.s 168]),im 10 169]
 (.seqj []
 (sr [ik 11 0]
 (.block 8
 (.loop [1,10,11]
 (.seqj [1,10,11]
 (sr [im 170 11,im 171 10,iq 172 (.lenL (.s 171)),iq 173 (.bin .lss (.s 170) (.s 172))]
 (.cond (.s 173)
 .skip
 (.exit 8)))
 (.seqj [1,10,11]
 (.block 9
 (.seq
 (.drw [iq 176 (.loadn 6 (.s 1)),im 177 10,im 178 11,iq 179 (.iaddrS 4 (.s 177) (.s 178)),iq 180 (.loadn 4 (.s 179)),⟨(some 181),(.call 53 [.s 176, .s 180]),none,(some [])⟩] [])
 (.cond (.s 181)
 (sr [ik 2 17]
 .ret)
 .skip)))
 (.reg [im 174 11,iq 175 (.bin .add (.s 174) (ci 1)),im 11 175]))))))
 (sr [ik 2 0]
 .ret)))))))))))))}
theorem Jrd :compFn Tryz.prog Tryz.f21 [[1],[1],[1,3],[1,3],[1,3],[1,3],[1,4,5],[1,4,5,6],[1,4,6],[1,4,5,6],[1,4,5],[1,4,5],[1],[1,4,5,7],[1,4,5,7],[1,4,5,7],[1,4,5,7,8],[1,4,5,7,8],[1,4,5,7,8],[1,4,5,7,8],[1,4,5,7,8,9],[1,4,7,8,9],[1,4,5,7,8,9],[1,4,5,7],[1],[],[1,10,11],[1,10,11],[1,10,11]]=some KX:=by kernel_rfl
def Kj :Eva.Fn:={ntmps:=36,res:=[.s 2],body:=
 (sr [iq 2 (.mv (.c (.bool false)))]
 (.seqj [0]
 (sr [im 4 0,iq 5 (.lenS (.s 4)),iq 6 (.eq (.one .i) false (.s 5) (ci 0)),im 7 6,ig 8 7 false (.mv (.s 0)),ig 9 7 false (.lenS (.s 8)),ig 10 7 false (.bin .gtr (.s 9) (ci 16)),iq 11 (.pick (.s 7) (.c (.bool true)) (.s 10)),im 12 11,ig 13 12 false (.mv (.s 0)),ig 14 12 false (.idxS (.s 13) (ci 0)),ig 15 12 false (.call 81 [.s 14]),ig 16 12 false (.not (.s 15)),iq 17 (.pick (.s 12) (.c (.bool true)) (.s 16))]
 (.cond (.s 17)
 (sr [iq 2 (.mv (.c (.bool false)))]
 .ret)
 .skip))
 (.seqj []
 (sr [ik 3 0]
 (.block 0
 (.loop [0,3]
 (.seqj [0,3]
 (sr [im 18 3,im 19 0,iq 20 (.lenS (.s 19)),iq 21 (.bin .lss (.s 18) (.s 20))]
 (.cond (.s 21)
 .skip
 (.exit 0)))
 (.seqj [0,3]
 (.block 1
 (sr [im 24 0,im 25 3,iq 26 (.idxS (.s 24) (.s 25)),iq 27 (.call 81 [.s 26]),iq 28 (.not (.s 27)),im 29 28,ig 30 29 true (.mv (.s 0)),ig 31 29 true (.mv (.s 3)),ig 32 29 true (.idxS (.s 30) (.s 31)),ig 33 29 true (.call 82 [.s 32]),ig 34 29 true (.not (.s 33)),iq 35 (.pick (.s 29) (.s 34) (.c (.bool false)))]
 (.cond (.s 35)
 (sr [iq 2 (.mv (.c (.bool false)))]
 .ret)
 .skip)))
 (.reg [im 22 3,iq 23 (.bin .add (.s 22) (ci 1)),im 3 23]))))))
 (sr [iq 2 (.mv (.c (.bool true)))]
 .ret))))}
theorem Jre :compFn Tryz.prog Tryz.f47 [[0],[],[0,3],[0,3],[0,3]]=some Kj:=by kernel_rfl
def JI :Eva.Fn:={ntmps:=21,res:=[.s 2],body:=
 (sr [iq 2 (.mv (.c (.bool false)))]
 (sr [im 3 0,iq 4 (.bin .geq (.s 3) (.c (.int .u8 97))),im 5 4,ig 6 5 true (.mv (.s 0)),ig 7 5 true (.bin .leq (.s 6) (.c (.int .u8 122))),iq 8 (.pick (.s 5) (.s 7) (.c (.bool false))),im 9 8,ig 10 9 false (.mv (.s 0)),ig 11 9 false (.bin .geq (.s 10) (.c (.int .u8 65))),ig 12 9 false (.mv (.s 11)),ig 13 12 true (.mv (.s 0)),ig 14 12 true (.bin .leq (.s 13) (.c (.int .u8 90))),ig 15 9 false (.pick (.s 12) (.s 14) (.c (.bool false))),iq 16 (.pick (.s 9) (.c (.bool true)) (.s 15)),im 17 16,ig 18 17 false (.mv (.s 0)),ig 19 17 false (.eq (.one .i) false (.s 18) (.c (.int .u8 95))),iq 20 (.pick (.s 17) (.c (.bool true)) (.s 19)),im 2 20]
 .ret))}
theorem Jrf :compFn Tryz.prog Tryz.f81 []=some JI:=by kernel_rfl
def Kk :Eva.Fn:={ntmps:=9,res:=[.s 2],body:=
 (sr [iq 2 (.mv (.c (.bool false)))]
 (sr [im 3 0,iq 4 (.bin .geq (.s 3) (.c (.int .u8 48))),im 5 4,ig 6 5 true (.mv (.s 0)),ig 7 5 true (.bin .leq (.s 6) (.c (.int .u8 57))),iq 8 (.pick (.s 5) (.s 7) (.c (.bool false))),im 2 8]
 .ret))}
theorem Jrg :compFn Tryz.prog Tryz.f82 []=some Kk:=by kernel_rfl
def JG :Eva.Fn:={ntmps:=29,res:=[.s 2],body:=
 (sr [iq 2 (.mv (.c (.bool false)))]
 (sr [im 3 0,iq 4 (.eq (.one .s) false (.s 3) (.c (ofL [66,111,111,108]))),im 5 4,ig 6 5 false (.mv (.s 0)),ig 7 5 false (.eq (.one .s) false (.s 6) (.c (ofL [73,110,116]))),iq 8 (.pick (.s 5) (.c (.bool true)) (.s 7)),im 9 8,ig 10 9 false (.mv (.s 0)),ig 11 9 false (.eq (.one .s) false (.s 10) (.c (ofL [84,101,120,116]))),iq 12 (.pick (.s 9) (.c (.bool true)) (.s 11)),im 13 12,ig 14 13 false (.mv (.s 0)),ig 15 13 false (.eq (.one .s) false (.s 14) (.c (ofL [76,105,115,116]))),iq 16 (.pick (.s 13) (.c (.bool true)) (.s 15)),im 17 16,ig 18 17 false (.mv (.s 0)),ig 19 17 false (.eq (.one .s) false (.s 18) (.c (ofL [77,97,112]))),iq 20 (.pick (.s 17) (.c (.bool true)) (.s 19)),im 21 20,ig 22 21 false (.mv (.s 0)),ig 23 21 false (.eq (.one .s) false (.s 22) (.c (ofL [79,112,116]))),iq 24 (.pick (.s 21) (.c (.bool true)) (.s 23)),im 25 24,ig 26 25 false (.mv (.s 0)),ig 27 25 false (.eq (.one .s) false (.s 26) (.c (ofL [85,110,105,111,110]))),iq 28 (.pick (.s 25) (.c (.bool true)) (.s 27)),im 2 28]
 .ret))}
theorem Jrh :compFn Tryz.prog Tryz.f48 []=some JG:=by kernel_rfl
def Kw :Eva.Fn:={ntmps:=50,res:=[.s 6],body:=
 (sr [iq 4 (.box (.s 1)),ik 6 0]
 (sr [im 9 0,iq 10 (.nilck (.s 9)),ia 11 6 10,il 12 11,iq 13 (.bin .add (.s 12) (ci 1)),iq 14 (.nilck (.s 9)),ia 15 6 14,iz (.store 1 (.s 15) (.s 13))]
 (.seqj [0,2,4]
 (sr [im 16 0,iq 17 (.nilck (.s 16)),ia 18 6 17,il 19 18,iq 20 (.bin .gtr (.s 19) (ci 400))]
 (.cond (.s 20)
 (sr [ik 6 3]
 .ret)
 .skip))
 (.seqj [0,2,4]
 (sr [im 21 2,iq 22 (.bin .gtr (.s 21) (ci 12))]
 (.cond (.s 22)
 (sr [ik 6 13]
 .ret)
 .skip))
 (.seq
 (.drw [im 23 0,iq 24 (.nilck (.s 23)),ia 25 0 24,iq 26 (.loadn 6 (.s 25)),iq 27 (.loadn 4 (.s 4)),⟨(some 28),(.call 83 [.s 26, .s 27]),none,(some [])⟩,im 7 28] [])
 (.seqj [7]
 (sr [ik 8 0]
 (.block 0
 (.loop [0,2,4,7,8]
 (.seqj [0,2,4,8]
 (sr [im 29 8,ia 30 3 4,il 31 30,iq 32 (.lenL (.s 31)),iq 33 (.bin .lss (.s 29) (.s 32)),im 34 33,ig 35 34 true (.mv (.s 7)),ig 36 34 true (.eq (.one .i) false (.s 35) (ci 0)),iq 37 (.pick (.s 34) (.s 36) (.c (.bool false)))]
 (.cond (.s 37)
 .skip
 (.exit 0)))
 (.seqj [0,2,4,7,8]
 (.block 1
 (.reg [im 40 0,ia 41 3 4,il 42 41,im 43 8,iq 44 (.iaddrS 4 (.s 42) (.s 43)),iq 45 (.loadn 4 (.s 44)),im 46 2,iq 47 (.bin .add (.s 46) (ci 1)),iq 48 (.call 49 [.s 40, .s 45, .s 47]),im 7 48]))
 (.reg [im 38 8,iq 39 (.bin .add (.s 38) (ci 1)),im 8 39]))))))
 (sr [im 49 7,im 6 49]
 .ret)))))))}
theorem Jri :compFn Tryz.prog Tryz.f49 [[0,2,4],[0,2,4],[7],[0,2,4,7,8],[0,2,4,8],[0,2,4,7,8]]=some Kw:=by kernel_rfl
def QA :Eva.Fn:={ntmps:=118,res:=[.s 4],body:=
 (sr [iq 2 (.box (.s 0)),iq 3 (.box (.s 1)),ik 4 0]
 (.seqj [2,3]
 (sr [ia 10 0 3,il 11 10,iq 12 (.bin .lss (.s 11) (ci 1)),im 13 12,ig 14 13 false (.faddr 0 (.s 3)),ig 15 13 false (.load1 (.s 14)),ig 16 13 false (.bin .gtr (.s 15) (ci 9)),iq 17 (.pick (.s 13) (.c (.bool true)) (.s 16))]
 (.cond (.s 17)
 (sr [ik 4 1]
 .ret)
 .skip))
 (sr [ik 5 0]
 (.seqj [2,3,5]
 (sr [ia 18 0 3,il 19 18]
 (.block 0
 (.seqj [2,3,5,19,20]
 (sr [iq 21 (.eq (.one .i) false (.s 19) (ci 4)),im 20 21]
 (.cond (.s 20)
 .skip
 (sr [iq 22 (.eq (.one .i) false (.s 19) (ci 5)),im 20 22]
 (.cond (.s 20)
 .skip
 (.reg [iq 23 (.eq (.one .i) false (.s 19) (ci 6)),im 20 23])))))
 (.cond (.s 20)
 (.reg [ik 5 1])
 (.seqj [2,3,5,24]
 (sr [iq 25 (.eq (.one .i) false (.s 19) (ci 7)),im 24 25]
 (.cond (.s 24)
 .skip
 (.reg [iq 26 (.eq (.one .i) false (.s 19) (ci 8)),im 24 26])))
 (.cond (.s 24)
 (.reg [ia 27 2 3,il 28 27,iq 29 (.lenL (.s 28)),im 5 29])
 .skip))))))
 (sr [ia 30 0 3,il 31 30,iq 32 (.eq (.one .i) false (.s 31) (ci 7)),im 33 32,ig 34 33 false (.faddr 0 (.s 3)),ig 35 33 false (.load1 (.s 34)),ig 36 33 false (.eq (.one .i) false (.s 35) (ci 8)),iq 37 (.pick (.s 33) (.c (.bool true)) (.s 36)),im 6 37]
 (.seqj [2,3]
 (sr [ia 38 3 3,il 39 38,iq 40 (.lenL (.s 39)),im 41 5,iq 42 (.eq (.one .i) true (.s 40) (.s 41)),im 43 42,ig 44 43 false (.faddr 0 (.s 3)),ig 45 43 false (.load1 (.s 44)),ig 46 43 false (.eq (.one .i) true (.s 45) (ci 9)),ig 47 43 false (.mv (.s 46)),ig 48 47 true (.faddr 1 (.s 3)),ig 49 47 true (.load1 (.s 48)),ig 50 47 true (.eq (.one .s) true (.s 49) (.c (ofL []))),ig 51 43 false (.pick (.s 47) (.s 50) (.c (.bool false))),iq 52 (.pick (.s 43) (.c (.bool true)) (.s 51)),im 53 52,ig 54 53 false (.mv (.s 6)),ig 55 53 false (.not (.s 54)),ig 56 53 false (.mv (.s 55)),ig 57 56 true (.faddr 2 (.s 3)),ig 58 56 true (.load1 (.s 57)),ig 59 56 true (.lenL (.s 58)),ig 60 56 true (.eq (.one .i) true (.s 59) (ci 0)),ig 61 53 false (.pick (.s 56) (.s 60) (.c (.bool false))),iq 62 (.pick (.s 53) (.c (.bool true)) (.s 61))]
 (.cond (.s 62)
 (sr [ik 4 12]
 .ret)
 .skip))
 (.seqj [3]
 (sr [ia 63 0 3,il 64 63,iq 65 (.eq (.one .i) false (.s 64) (ci 9))]
 (.cond (.s 65)
 (sr [iq 67 (.loadn 6 (.s 2)),ia 68 1 3,il 69 68,iq 70 (.call 114 [.s 67, .s 69]),im 66 70,ie 71 0 66,ie 72 1 66,iq 7 (.alloc [(.int .i64 0),(ofL []), .snil, .snil]),iz (.store 4 (.s 7) (.s 71)),im 8 72]
 (sr [im 73 8,iq 74 (.not (.s 73))]
 (.cond (.s 74)
 (sr [ik 4 15]
 .ret)
 .skip)))
 .skip))
 (.seqj [3]
 (sr [ia 75 2 3,il 76 75,iq 77 (.lenL (.s 76)),iq 78 (.bin .gtr (.s 77) (ci 8))]
 (.cond (.s 78)
 (sr [ik 4 3]
 .ret)
 .skip))
 (.seqj [3]
 (sr [ik 9 0]
 (.block 1
 (.loop [3,9]
 (.seqj [3,9]
 (sr [im 79 9,ia 80 2 3,il 81 80,iq 82 (.lenL (.s 81)),iq 83 (.bin .lss (.s 79) (.s 82))]
 (.cond (.s 83)
 .skip
 (.exit 1)))
 (.seqj [3,9]
 (.block 2
 (.seqj [3,9]
 (sr [ia 86 2 3,il 87 86,im 88 9,iq 89 (.iaddrS 1 (.s 87) (.s 88)),il 90 89,iq 91 (.call 47 [.s 90]),iq 92 (.not (.s 91))]
 (.cond (.s 92)
 (sr [ik 4 15]
 .ret)
 .skip))
 (.seq
 (.drw [im 93 9,iq 94 (.bin .gtr (.s 93) (ci 0)),im 95 94,ig 96 95 true (.faddr 2 (.s 3)),ig 97 95 true (.load1 (.s 96)),ig 98 95 true (.mv (.s 9)),ig 99 95 true (.iaddrS 1 (.s 97) (.s 98)),ig 100 95 true (.load1 (.s 99)),ig 101 95 true (.faddr 2 (.s 3)),ig 102 95 true (.load1 (.s 101)),ig 103 95 true (.mv (.s 9)),ig 104 95 true (.bin .sub (.s 103) (ci 1)),ig 105 95 true (.iaddrS 1 (.s 102) (.s 104)),ig 106 95 true (.load1 (.s 105)),ig 107 95 true (.bin .leq (.s 100) (.s 106)),iq 108 (.pick (.s 95) (.s 107) (.c (.bool false)))] [])
 (.cond (.s 108)
 (sr [ik 4 6]
 .ret)
 .skip))))
 (.reg [im 84 9,iq 85 (.bin .add (.s 84) (ci 1)),im 9 85]))))))
 (.seqj []
 (sr [ia 109 0 3,il 110 109,iq 111 (.eq (.one .i) false (.s 110) (ci 8)),im 112 111,ig 113 112 true (.faddr 2 (.s 3)),ig 114 112 true (.load1 (.s 113)),ig 115 112 true (.lenL (.s 114)),ig 116 112 true (.eq (.one .i) false (.s 115) (ci 0)),iq 117 (.pick (.s 112) (.s 116) (.c (.bool false)))]
 (.cond (.s 117)
 (sr [ik 4 12]
 .ret)
 .skip))
 (sr [ik 4 0]
 .ret)))))))))))}
theorem Jrj :compFn Tryz.prog Tryz.f83 [[2,3],[2,3,5],[2,3,5,19,20],[2,3,5,24],[2,3],[3],[3],[3],[3,9],[3,9],[3,9],[3,9],[]]=some QA:=by kernel_rfl
def QB :Eva.Fn:={ntmps:=29,res:=[(.cn 4 4), .s 5],body:=
 (sr [iq 2 (.box (.s 0)),iq 4 (.alloc [(.int .i64 0),(ofL []), .snil, .snil]),iq 5 (.mv (.c (.bool false)))]
 (.seqj [4]
 (sr [ik 6 0]
 (.block 0
 (.loop [1,2,4,6]
 (.seqj [1,2,4,6]
 (sr [im 7 6,ia 8 4 2,il 9 8,iq 10 (.lenL (.s 9)),iq 11 (.bin .lss (.s 7) (.s 10))]
 (.cond (.s 11)
 .skip
 (.exit 0)))
 (.seqj [1,2,4,6]
 (.block 1
 (sr [ia 14 4 2,il 15 14,im 16 6,iq 17 (.iaddrS 5 (.s 15) (.s 16)),ia 18 0 17,il 19 18,im 20 1,iq 21 (.eq (.one .s) false (.s 19) (.s 20))]
 (.cond (.s 21)
 (sr [ia 22 4 2,il 23 22,im 24 6,iq 25 (.iaddrS 5 (.s 23) (.s 24)),ia 26 1 25,iq 27 (.loadn 4 (.s 26)),iz (.store 4 (.s 4) (.s 27)),iq 5 (.mv (.c (.bool true)))]
 .ret)
 .skip)))
 (.reg [im 12 6,iq 13 (.bin .add (.s 12) (ci 1)),im 6 13]))))))
 (sr [iq 28 (.build [(.int .i64 0),(ofL []), .snil, .snil] []),iz (.store 4 (.s 4) (.s 28)),iq 5 (.mv (.c (.bool false)))]
 .ret)))}
theorem Jpw :compFn Tryz.prog Tryz.f114 [[4],[1,2,4,6],[1,2,4,6],[1,2,4,6]]=some QB:=by kernel_rfl
def Jn :Eva.Fn:={ntmps:=28,res:=[.s 2],body:=
 (sr [iq 2 (.mv (.c (.bool false)))]
 (.seqj []
 (sr [im 3 0]
 (.block 0
 (.seqj [4]
 (sr [iq 5 (.eq (.one .s) false (.s 3) (.c (ofL [108,101,110]))),im 4 5]
 (.cond (.s 4)
 .skip
 (sr [iq 6 (.eq (.one .s) false (.s 3) (.c (ofL [110,111,116]))),im 4 6]
 (.cond (.s 4)
 .skip
 (sr [iq 7 (.eq (.one .s) false (.s 3) (.c (ofL [97,110,100]))),im 4 7]
 (.cond (.s 4)
 .skip
 (sr [iq 8 (.eq (.one .s) false (.s 3) (.c (ofL [111,114]))),im 4 8]
 (.cond (.s 4)
 .skip
 (sr [iq 9 (.eq (.one .s) false (.s 3) (.c (ofL [101,113]))),im 4 9]
 (.cond (.s 4)
 .skip
 (sr [iq 10 (.eq (.one .s) false (.s 3) (.c (ofL [108,116]))),im 4 10]
 (.cond (.s 4)
 .skip
 (sr [iq 11 (.eq (.one .s) false (.s 3) (.c (ofL [97,100,100]))),im 4 11]
 (.cond (.s 4)
 .skip
 (sr [iq 12 (.eq (.one .s) false (.s 3) (.c (ofL [115,117,98]))),im 4 12]
 (.cond (.s 4)
 .skip
 (sr [iq 13 (.eq (.one .s) false (.s 3) (.c (ofL [109,117,108]))),im 4 13]
 (.cond (.s 4)
 .skip
 (sr [iq 14 (.eq (.one .s) false (.s 3) (.c (ofL [115,104,108]))),im 4 14]
 (.cond (.s 4)
 .skip
 (sr [iq 15 (.eq (.one .s) false (.s 3) (.c (ofL [115,104,114]))),im 4 15]
 (.cond (.s 4)
 .skip
 (sr [iq 16 (.eq (.one .s) false (.s 3) (.c (ofL [105,56]))),im 4 16]
 (.cond (.s 4)
 .skip
 (sr [iq 17 (.eq (.one .s) false (.s 3) (.c (ofL [105,49,54]))),im 4 17]
 (.cond (.s 4)
 .skip
 (sr [iq 18 (.eq (.one .s) false (.s 3) (.c (ofL [105,51,50]))),im 4 18]
 (.cond (.s 4)
 .skip
 (sr [iq 19 (.eq (.one .s) false (.s 3) (.c (ofL [117,56]))),im 4 19]
 (.cond (.s 4)
 .skip
 (sr [iq 20 (.eq (.one .s) false (.s 3) (.c (ofL [117,49,54]))),im 4 20]
 (.cond (.s 4)
 .skip
 (sr [iq 21 (.eq (.one .s) false (.s 3) (.c (ofL [117,51,50]))),im 4 21]
 (.cond (.s 4)
 .skip
 (sr [iq 22 (.eq (.one .s) false (.s 3) (.c (ofL [99,97,116]))),im 4 22]
 (.cond (.s 4)
 .skip
 (sr [iq 23 (.eq (.one .s) false (.s 3) (.c (ofL [116,101,120,116]))),im 4 23]
 (.cond (.s 4)
 .skip
 (sr [iq 24 (.eq (.one .s) false (.s 3) (.c (ofL [97,116]))),im 4 24]
 (.cond (.s 4)
 .skip
 (sr [iq 25 (.eq (.one .s) false (.s 3) (.c (ofL [103,101,116]))),im 4 25]
 (.cond (.s 4)
 .skip
 (sr [iq 26 (.eq (.one .s) false (.s 3) (.c (ofL [104,97,115]))),im 4 26]
 (.cond (.s 4)
 .skip
 (.reg [iq 27 (.eq (.one .s) false (.s 3) (.c (ofL [111,114,101,108,115,101]))),im 4 27])))))))))))))))))))))))))))))))))))))))))))))
 (.cond (.s 4)
 (sr [iq 2 (.mv (.c (.bool true)))]
 .ret)
 .skip))))
 (sr [iq 2 (.mv (.c (.bool false)))]
 .ret)))}
theorem Jrk :compFn Tryz.prog Tryz.f50 [[],[4]]=some Jn:=by kernel_rfl
def KP :Eva.Fn:={ntmps:=40,res:=[.s 2],body:=
 (sr [iq 1 (.box (.s 0)),iq 2 (.mv (.c .snil))]
 (sr [iq 3 (.mv (.c .snil))]
 (.seqj [3]
 (sr [ik 4 0]
 (.block 0
 (.loop [1,3,4]
 (.seqj [1,3,4]
 (sr [im 7 4,ia 8 4 1,il 9 8,iq 10 (.lenL (.s 9)),iq 11 (.bin .leq (.s 7) (.s 10))]
 (.cond (.s 11)
 .skip
 (.exit 0)))
 (.seqj [1,3,4]
 (.block 1
 (sr [iq 5 (.mv (.c .snil))]
 (.seqj [1,4,5]
 (sr [ik 6 0]
 (.block 2
 (.loop [1,3,4,5,6]
 (.seqj [1,3,4,5,6]
 (sr [im 14 6,ia 15 4 1,il 16 15,iq 17 (.lenL (.s 16)),iq 18 (.bin .lss (.s 14) (.s 17))]
 (.cond (.s 18)
 .skip
 (.exit 2)))
 (.seqj [1,3,4,5,6]
 (.block 3
 (sr [im 21 3,ia 22 4 1,il 23 22,im 24 6,iq 25 (.iaddrS 5 (.s 23) (.s 24)),ia 26 1 25,iq 27 (.loadn 4 (.s 26)),iq 28 (.call 84 [.s 21, .s 27])]
 (.cond (.s 28)
 (.reg [im 29 5,ia 30 4 1,il 31 30,im 32 6,iq 33 (.iaddrS 5 (.s 31) (.s 32)),ia 34 0 33,il 35 34,iq 36 (.bsl 1 1 [(ofL [])] [(0,1,(.s 35))]),iq 37 (.app 1 (.s 29) (.s 36)),im 5 37])
 .skip)))
 (.reg [im 19 6,iq 20 (.bin .add (.s 19) (ci 1)),im 6 20]))))))
 (.reg [im 38 5,im 3 38]))))
 (.reg [im 12 4,iq 13 (.bin .add (.s 12) (ci 1)),im 4 13]))))))
 (sr [im 39 3,im 2 39]
 .ret))))}
theorem Jrl :compFn Tryz.prog Tryz.f51 [[3],[1,3,4],[1,3,4],[1,3,4],[1,4,5],[1,3,4,5,6],[1,3,4,5,6],[1,3,4,5,6]]=some KP:=by kernel_rfl
def Qg :Eva.Fn:={ntmps:=48,res:=[.s 4],body:=
 (sr [iq 3 (.box (.s 1)),iq 4 (.mv (.c (.bool false)))]
 (.seqj []
 (sr [ia 7 0 3,il 8 7]
 (.block 0
 (sr [iq 10 (.eq (.one .i) false (.s 8) (ci 7)),im 9 10]
 (.cond (.s 9)
 (.seqj []
 (sr [ik 5 0]
 (.block 1
 (.loop [0,3,5]
 (.seqj [0,3,5]
 (sr [im 11 5,ia 12 3 3,il 13 12,iq 14 (.lenL (.s 13)),iq 15 (.bin .lss (.s 11) (.s 14))]
 (.cond (.s 15)
 .skip
 (.exit 1)))
 (.seqj [0,3,5]
 (.block 2
 (sr [im 18 0,ia 19 3 3,il 20 19,im 21 5,iq 22 (.iaddrS 4 (.s 20) (.s 21)),iq 23 (.loadn 4 (.s 22)),iq 24 (.call 84 [.s 18, .s 23]),iq 25 (.not (.s 24))]
 (.cond (.s 25)
 (sr [iq 4 (.mv (.c (.bool false)))]
 .ret)
 .skip)))
 (.reg [im 16 5,iq 17 (.bin .add (.s 16) (ci 1)),im 5 17]))))))
 (sr [iq 4 (.mv (.c (.bool true)))]
 .ret))
 (sr [iq 27 (.eq (.one .i) false (.s 8) (ci 8)),im 26 27]
 (.cond (.s 26)
 (.seqj []
 (sr [ik 6 0]
 (.block 3
 (.loop [0,3,6]
 (.seqj [0,3,6]
 (sr [im 28 6,ia 29 3 3,il 30 29,iq 31 (.lenL (.s 30)),iq 32 (.bin .lss (.s 28) (.s 31))]
 (.cond (.s 32)
 .skip
 (.exit 3)))
 (.seqj [0,3,6]
 (.block 4
 (sr [im 35 0,ia 36 3 3,il 37 36,im 38 6,iq 39 (.iaddrS 4 (.s 37) (.s 38)),iq 40 (.loadn 4 (.s 39)),iq 41 (.call 84 [.s 35, .s 40])]
 (.cond (.s 41)
 (sr [iq 4 (.mv (.c (.bool true)))]
 .ret)
 .skip)))
 (.reg [im 33 6,iq 34 (.bin .add (.s 33) (ci 1)),im 6 34]))))))
 (sr [iq 4 (.mv (.c (.bool false)))]
 .ret))
 (sr [iq 43 (.eq (.one .i) false (.s 8) (ci 9)),im 42 43]
 (.cond (.s 42)
 (sr [im 44 0,ia 45 1 3,il 46 45,iq 47 (.call 115 [.s 44, .s 46]),im 4 47]
 .ret)
 .skip))))))))
 (sr [iq 4 (.mv (.c (.bool true)))]
 .ret)))}
theorem Jrm :compFn Tryz.prog Tryz.f84 [[],[],[0,3,5],[0,3,5],[0,3,5],[],[0,3,6],[0,3,6],[0,3,6]]=some Qg:=by kernel_rfl
def QR :Eva.Fn:={ntmps:=18,res:=[.s 4],body:=
 (sr [iq 4 (.mv (.c (.bool false)))]
 (.seqj []
 (sr [ik 5 0]
 (.block 0
 (.loop [0,1,5]
 (.seqj [0,1,5]
 (sr [im 6 5,im 7 0,iq 8 (.lenL (.s 7)),iq 9 (.bin .lss (.s 6) (.s 8))]
 (.cond (.s 9)
 .skip
 (.exit 0)))
 (.seqj [0,1,5]
 (.block 1
 (sr [im 12 0,im 13 5,iq 14 (.iaddrS 1 (.s 12) (.s 13)),il 15 14,im 16 1,iq 17 (.eq (.one .s) false (.s 15) (.s 16))]
 (.cond (.s 17)
 (sr [iq 4 (.mv (.c (.bool true)))]
 .ret)
 .skip)))
 (.reg [im 10 5,iq 11 (.bin .add (.s 10) (ci 1)),im 5 11]))))))
 (sr [iq 4 (.mv (.c (.bool false)))]
 .ret)))}
theorem Jpx :compFn Tryz.prog Tryz.f115 [[],[0,1,5],[0,1,5],[0,1,5]]=some QR:=by kernel_rfl
def QC :Eva.Fn:={ntmps:=52,res:=[.s 2],body:=
 (sr [iq 1 (.box (.s 0)),iq 2 (.mv (.c .snil))]
 (sr [iq 3 (.mv (.c .snil))]
 (.seqj [1,3]
 (sr [ik 4 0]
 (.block 0
 (.loop [1,3,4]
 (.seqj [1,3,4]
 (sr [im 6 4,ia 7 4 1,il 8 7,iq 9 (.lenL (.s 8)),iq 10 (.bin .lss (.s 6) (.s 9))]
 (.cond (.s 10)
 .skip
 (.exit 0)))
 (.seqj [1,3,4]
 (.block 1
 (.reg [im 13 3,ia 14 4 1,il 15 14,im 16 4,iq 17 (.iaddrS 5 (.s 15) (.s 16)),ia 18 1 17,iq 19 (.loadn 4 (.s 18)),iq 20 (.bsl 4 1 [(.int .i64 0),(ofL []), .snil, .snil] [(0,4,(.s 19))]),iq 21 (.app 4 (.s 13) (.s 20)),im 3 21]))
 (.reg [im 11 4,iq 12 (.bin .add (.s 11) (ci 1)),im 4 12]))))))
 (sr [im 22 3,ia 23 0 1,iq 24 (.loadn 4 (.s 23)),iq 25 (.bsl 4 1 [(.int .i64 0),(ofL []), .snil, .snil] [(0,4,(.s 24))]),iq 26 (.app 4 (.s 22) (.s 25)),im 3 26]
 (.seqj [3]
 (sr [ik 5 0]
 (.block 2
 (.loop [1,3,5]
 (.seqj [1,3,5]
 (sr [im 27 5,ia 28 5 1,il 29 28,iq 30 (.lenL (.s 29)),iq 31 (.bin .lss (.s 27) (.s 30))]
 (.cond (.s 31)
 .skip
 (.exit 2)))
 (.seqj [1,3,5]
 (.block 3
 (sr [im 34 3,ia 35 5 1,il 36 35,im 37 5,iq 38 (.iaddrS 6 (.s 36) (.s 37)),ia 39 1 38,il 40 39,iq 41 (.app 4 (.s 34) (.s 40)),im 3 41]
 (.reg [im 42 3,ia 43 5 1,il 44 43,im 45 5,iq 46 (.iaddrS 6 (.s 44) (.s 45)),ia 47 2 46,iq 48 (.loadn 4 (.s 47)),iq 49 (.bsl 4 1 [(.int .i64 0),(ofL []), .snil, .snil] [(0,4,(.s 48))]),iq 50 (.app 4 (.s 42) (.s 49)),im 3 50])))
 (.reg [im 32 5,iq 33 (.bin .add (.s 32) (ci 1)),im 5 33]))))))
 (sr [im 51 3,im 2 51]
 .ret))))))}
theorem Jrn :compFn Tryz.prog Tryz.f52 [[1,3],[1,3,4],[1,3,4],[1,3,4],[3],[1,3,5],[1,3,5],[1,3,5]]=some QC:=by kernel_rfl
def Qh :Eva.Fn:={ntmps:=33,res:=[.s 4],body:=
 (sr [iq 2 (.box (.s 0)),iq 3 (.box (.s 1)),iq 4 (.mv (.c (.bool false)))]
 (.seqj [2,3]
 (.seq
 (.drw [ia 6 0 3,il 7 6,iq 8 (.eq (.one .i) false (.s 7) (ci 6)),im 9 8,ig 10 9 true (.loadn 6 (.s 2)),ig 11 9 true (.faddr 3 (.s 3)),ig 12 9 true (.load1 (.s 11)),ig 13 9 true (.iaddrS 4 (.s 12) (ci 0)),ig 14 9 true (.loadn 4 (.s 13)),⟨(some 15),(.call 85 [.s 10, .s 14]),(some (9,true)),(some [])⟩,ig 16 9 true (.fld 0 none (.s 15)),ig 17 9 true (.eq (.one .i) false (.s 16) (ci 6)),iq 18 (.pick (.s 9) (.s 17) (.c (.bool false)))] [])
 (.cond (.s 18)
 (sr [iq 4 (.mv (.c (.bool true)))]
 .ret)
 .skip))
 (.seqj []
 (sr [ik 5 0]
 (.block 0
 (.loop [2,3,5]
 (.seqj [2,3,5]
 (sr [im 19 5,ia 20 3 3,il 21 20,iq 22 (.lenL (.s 21)),iq 23 (.bin .lss (.s 19) (.s 22))]
 (.cond (.s 23)
 .skip
 (.exit 0)))
 (.seqj [2,3,5]
 (.block 1
 (.seq
 (.drw [iq 26 (.loadn 6 (.s 2)),ia 27 3 3,il 28 27,im 29 5,iq 30 (.iaddrS 4 (.s 28) (.s 29)),iq 31 (.loadn 4 (.s 30)),⟨(some 32),(.call 53 [.s 26, .s 31]),none,(some [])⟩] [])
 (.cond (.s 32)
 (sr [iq 4 (.mv (.c (.bool true)))]
 .ret)
 .skip)))
 (.reg [im 24 5,iq 25 (.bin .add (.s 24) (ci 1)),im 5 25]))))))
 (sr [iq 4 (.mv (.c (.bool false)))]
 .ret))))}
theorem Jro :compFn Tryz.prog Tryz.f53 [[2,3],[],[2,3,5],[2,3,5],[2,3,5]]=some Qh:=by kernel_rfl
def Qi :Eva.Fn:={ntmps:=26,res:=[(.cn 4 4)],body:=
 (sr [iq 2 (.box (.s 0)),iq 3 (.box (.s 1)),iq 4 (.alloc [(.int .i64 0),(ofL []), .snil, .snil])]
 (.seqj [3,4]
 (sr [ik 5 0]
 (.block 0
 (.loop [2,3,4,5]
 (.seqj [2,3,4,5]
 (sr [im 6 5,ia 7 4 2,il 8 7,iq 9 (.lenL (.s 8)),iq 10 (.bin .leq (.s 6) (.s 9)),im 11 10,ig 12 11 true (.faddr 0 (.s 3)),ig 13 11 true (.load1 (.s 12)),ig 14 11 true (.eq (.one .i) false (.s 13) (ci 9)),iq 15 (.pick (.s 11) (.s 14) (.c (.bool false)))]
 (.cond (.s 15)
 .skip
 (.exit 0)))
 (.seqj [2,3,4,5]
 (.block 1
 (.reg [iq 19 (.loadn 6 (.s 2)),ia 20 1 3,il 21 20,iq 22 (.call 114 [.s 19, .s 21]),im 18 22,ie 23 0 18,ie 24 1 18,iz (.store 4 (.s 3) (.s 23))]))
 (.reg [im 16 5,iq 17 (.bin .add (.s 16) (ci 1)),im 5 17]))))))
 (sr [iq 25 (.loadn 4 (.s 3)),iz (.store 4 (.s 4) (.s 25))]
 .ret)))}
theorem Jrp :compFn Tryz.prog Tryz.f85 [[3,4],[2,3,4,5],[2,3,4,5],[2,3,4,5]]=some Qi:=by kernel_rfl
def Kl :Eva.Fn:={ntmps:=98,res:=[.s 4, .s 5],body:=
 (sr [iq 3 (.box (.s 1)),ik 4 0,ik 5 0]
 (.seq
 (.drw [ia 11 0 3,il 12 11,ia 13 1 3,il 14 13,iq 15 (.bsl 1 0 [] []),ia 16 2 3,il 17 16,iq 18 (.app 1 (.s 15) (.s 17)),iq 19 (.build [(.int .i64 0),(ofL []), .snil, .snil] [(0,1,(.s 12)),(1,1,(.s 14)),(2,1,(.s 18))]),iq 6 (.alloc [(.int .i64 0),(ofL []), .snil, .snil]),iz (.store 4 (.s 6) (.s 19))] [([15],[11]),([15],[13])])
 (.seqj [0,3,6]
 (sr [ik 7 0]
 (.block 0
 (.loop [0,3,6,7]
 (.seqj [0,3,6,7]
 (sr [im 20 7,ia 21 3 3,il 22 21,iq 23 (.lenL (.s 22)),iq 24 (.bin .lss (.s 20) (.s 23))]
 (.cond (.s 24)
 .skip
 (.exit 0)))
 (.seqj [0,3,6,7]
 (.block 1
 (sr [im 28 0,ia 29 3 3,il 30 29,im 31 7,iq 32 (.iaddrS 4 (.s 30) (.s 31)),iq 33 (.loadn 4 (.s 32)),iq 34 (.call 22 [.s 28, .s 33]),im 27 34,ie 35 0 27,ie 36 1 27,im 8 35,im 9 36]
 (.seqj [0,3,6,7,8]
 (sr [im 37 9,iq 38 (.eq (.one .i) true (.s 37) (ci 0))]
 (.cond (.s 38)
 (sr [im 39 9,ik 4 0,im 5 39]
 .ret)
 .skip))
 (.reg [ia 40 3 6,il 41 40,im 42 8,iq 43 (.bsl 1 1 [(.int .i64 0)] [(0,1,(.s 42))]),iq 44 (.app 1 (.s 41) (.s 43)),ia 45 3 6,iz (.store 1 (.s 45) (.s 44))]))))
 (.reg [im 25 7,iq 26 (.bin .add (.s 25) (ci 1)),im 7 26]))))))
 (.seqj [0,3,6]
 (sr [ik 10 0]
 (.block 2
 (.loop [0,3,6,10]
 (.seqj [0,3,6,10]
 (sr [im 46 10,im 47 0,iq 48 (.nilck (.s 47)),ia 49 1 48,il 50 49,iq 51 (.lenL (.s 50)),iq 52 (.bin .lss (.s 46) (.s 51))]
 (.cond (.s 52)
 .skip
 (.exit 2)))
 (.seqj [0,3,6,10]
 (.block 3
 (.seq
 (.drw [im 55 0,iq 56 (.nilck (.s 55)),ia 57 1 56,il 58 57,im 59 10,iq 60 (.iaddrS 4 (.s 58) (.s 59)),iq 61 (.loadn 4 (.s 60)),iq 62 (.loadn 4 (.s 3)),⟨(some 63),(.call 54 [.s 61, .s 62]),none,(some [])⟩] [])
 (.cond (.s 63)
 (sr [im 64 10,im 4 64,ik 5 0]
 .ret)
 .skip)))
 (.reg [im 53 10,iq 54 (.bin .add (.s 53) (ci 1)),im 10 54]))))))
 (.seqj [0,3,6]
 (sr [im 65 0,iq 66 (.nilck (.s 65)),ia 67 0 66,il 68 67,iq 69 (.lenL (.s 68)),iq 70 (.bin .geq (.s 69) (ci 120))]
 (.cond (.s 70)
 (sr [ik 4 0,ik 5 20]
 .ret)
 .skip))
 (.seq
 (.drw [im 71 0,im 72 0,iq 73 (.nilck (.s 72)),ia 74 0 73,il 75 74,iq 76 (.loadn 4 (.s 6)),iq 77 (.bsl 4 1 [(.int .i64 0),(ofL []), .snil, .snil] [(0,4,(.s 76))]),iq 78 (.app 4 (.s 75) (.s 77)),iq 79 (.nilck (.s 71)),ia 80 0 79,iz (.store 1 (.s 80) (.s 78))] [])
 (.seq
 (.drw [im 81 0,iq 82 (.nilck (.s 81)),ia 83 1 82,il 84 83,iq 85 (.loadn 4 (.s 3)),iq 86 (.lenL (.s 84)),iq 87 (.bsl 4 1 [(.int .i64 0),(ofL []), .snil, .snil] [(0,4,(.c (.agg [(.int .i64 0),(ofL []), .snil, .snil])))]),iq 88 (.app 4 (.s 84) (.s 87)),iq 89 (.iaddrS 4 (.s 88) (.s 86)),iz (.store 4 (.s 89) (.s 85)),iq 90 (.nilck (.s 81)),ia 91 1 90,iz (.store 1 (.s 91) (.s 88))] [([89],[91]),([91],[89])])
 (sr [im 92 0,iq 93 (.nilck (.s 92)),ia 94 0 93,il 95 94,iq 96 (.lenL (.s 95)),iq 97 (.bin .sub (.s 96) (ci 1)),im 4 97,ik 5 0]
 .ret))))))))}
theorem Jrq :compFn Tryz.prog Tryz.f22 [[0,3,6],[0,3,6,7],[0,3,6,7],[0,3,6,7],[0,3,6,7,8],[0,3,6],[0,3,6,10],[0,3,6,10],[0,3,6,10],[0,3,6]]=some Kl:=by kernel_rfl
def Qj :Eva.Fn:={ntmps:=74,res:=[.s 4],body:=
 (sr [iq 2 (.box (.s 0)),iq 3 (.box (.s 1)),iq 4 (.mv (.c (.bool false)))]
 (.seqj [2,3]
 (sr [ia 7 0 2,il 8 7,ia 9 0 3,il 10 9,iq 11 (.eq (.one .i) true (.s 8) (.s 10)),im 12 11,ig 13 12 false (.faddr 1 (.s 2)),ig 14 12 false (.load1 (.s 13)),ig 15 12 false (.faddr 1 (.s 3)),ig 16 12 false (.load1 (.s 15)),ig 17 12 false (.eq (.one .s) true (.s 14) (.s 16)),iq 18 (.pick (.s 12) (.c (.bool true)) (.s 17)),im 19 18,ig 20 19 false (.faddr 2 (.s 2)),ig 21 19 false (.load1 (.s 20)),ig 22 19 false (.lenL (.s 21)),ig 23 19 false (.faddr 2 (.s 3)),ig 24 19 false (.load1 (.s 23)),ig 25 19 false (.lenL (.s 24)),ig 26 19 false (.eq (.one .i) true (.s 22) (.s 25)),iq 27 (.pick (.s 19) (.c (.bool true)) (.s 26)),im 28 27,ig 29 28 false (.faddr 3 (.s 2)),ig 30 28 false (.load1 (.s 29)),ig 31 28 false (.lenL (.s 30)),ig 32 28 false (.faddr 3 (.s 3)),ig 33 28 false (.load1 (.s 32)),ig 34 28 false (.lenL (.s 33)),ig 35 28 false (.eq (.one .i) true (.s 31) (.s 34)),iq 36 (.pick (.s 28) (.c (.bool true)) (.s 35))]
 (.cond (.s 36)
 (sr [iq 4 (.mv (.c (.bool false)))]
 .ret)
 .skip))
 (.seqj [2,3]
 (sr [ik 5 0]
 (.block 0
 (.loop [2,3,5]
 (.seqj [2,3,5]
 (sr [im 37 5,ia 38 2 2,il 39 38,iq 40 (.lenL (.s 39)),iq 41 (.bin .lss (.s 37) (.s 40))]
 (.cond (.s 41)
 .skip
 (.exit 0)))
 (.seqj [2,3,5]
 (.block 1
 (.seq
 (.drw [ia 44 2 2,il 45 44,im 46 5,iq 47 (.iaddrS 1 (.s 45) (.s 46)),il 48 47,ia 49 2 3,il 50 49,im 51 5,iq 52 (.iaddrS 1 (.s 50) (.s 51)),il 53 52,iq 54 (.eq (.one .s) true (.s 48) (.s 53))] [])
 (.cond (.s 54)
 (sr [iq 4 (.mv (.c (.bool false)))]
 .ret)
 .skip)))
 (.reg [im 42 5,iq 43 (.bin .add (.s 42) (ci 1)),im 5 43]))))))
 (.seqj []
 (sr [ik 6 0]
 (.block 2
 (.loop [2,3,6]
 (.seqj [2,3,6]
 (sr [im 55 6,ia 56 3 2,il 57 56,iq 58 (.lenL (.s 57)),iq 59 (.bin .lss (.s 55) (.s 58))]
 (.cond (.s 59)
 .skip
 (.exit 2)))
 (.seqj [2,3,6]
 (.block 3
 (.seq
 (.drw [ia 62 3 2,il 63 62,im 64 6,iq 65 (.iaddrS 4 (.s 63) (.s 64)),iq 66 (.loadn 4 (.s 65)),ia 67 3 3,il 68 67,im 69 6,iq 70 (.iaddrS 4 (.s 68) (.s 69)),iq 71 (.loadn 4 (.s 70)),⟨(some 72),(.call 54 [.s 66, .s 71]),none,(some [])⟩,iq 73 (.not (.s 72))] [])
 (.cond (.s 73)
 (sr [iq 4 (.mv (.c (.bool false)))]
 .ret)
 .skip)))
 (.reg [im 60 6,iq 61 (.bin .add (.s 60) (ci 1)),im 6 61]))))))
 (sr [iq 4 (.mv (.c (.bool true)))]
 .ret)))))}
theorem Jrr :compFn Tryz.prog Tryz.f54 [[2,3],[2,3],[2,3,5],[2,3,5],[2,3,5],[],[2,3,6],[2,3,6],[2,3,6]]=some Qj:=by kernel_rfl
def KY :Eva.Fn:={ntmps:=70,res:=[.s 2, .s 3, .s 4],body:=
 (sr [iq 2 (.mv (.c .snil)),ik 3 0,ik 4 0]
 (sr [im 11 0,iq 12 (.call 14 [.s 11]),im 10 12,ie 13 0 10,ie 14 1 10,im 5 13,im 6 14]
 (.seqj [0,5]
 (sr [im 15 6,iq 16 (.eq (.one .i) true (.s 15) (ci 0))]
 (.cond (.s 16)
 (sr [im 17 6,iq 2 (.mv (.c .snil)),ik 3 0,im 4 17]
 .ret)
 .skip))
 (sr [iq 18 (.build [.snil, .snil, .snil,(.int .i64 0)] []),iq 19 (.box (.s 18)),im 7 19]
 (.seqj [0,7]
 (sr [ik 8 0]
 (.block 0
 (.loop [0,5,7,8]
 (.seqj [0,5,7,8]
 (sr [im 20 8,im 21 5,iq 22 (.lenL (.s 21)),iq 23 (.bin .lss (.s 20) (.s 22))]
 (.cond (.s 23)
 .skip
 (.exit 0)))
 (.seqj [0,5,7,8]
 (.block 1
 (sr [ik 9 0]
 (.seqj [0,5,7,8,9]
 (sr [im 26 5,im 27 8,iq 28 (.iaddrS 3 (.s 26) (.s 27)),ia 29 0 28,il 30 29]
 (.cond (.s 30)
 (.reg [im 31 7,im 32 5,im 33 8,iq 34 (.iaddrS 3 (.s 32) (.s 33)),iq 35 (.loadn 3 (.s 34)),iq 36 (.call 15 [.s 31, .s 35]),im 9 36])
 (.reg [im 37 7,im 38 5,im 39 8,iq 40 (.iaddrS 3 (.s 38) (.s 39)),iq 41 (.loadn 3 (.s 40)),iq 42 (.call 16 [.s 37, .s 41]),im 9 42])))
 (sr [im 43 9,iq 44 (.eq (.one .i) true (.s 43) (ci 0))]
 (.cond (.s 44)
 (.seq
 (.drw [im 45 5,im 46 8,iq 47 (.iaddrS 3 (.s 45) (.s 46)),ia 48 2 47,il 49 48,im 50 9,iq 2 (.mv (.c .snil)),im 3 49,im 4 50] [])
 .ret)
 .skip)))))
 (.reg [im 24 8,iq 25 (.bin .add (.s 24) (ci 1)),im 8 25]))))))
 (.seqj [7]
 (sr [im 51 7,iq 52 (.nilck (.s 51)),ia 53 0 52,il 54 53,iq 55 (.lenL (.s 54)),iq 56 (.bin .gtr (.s 55) (ci 0))]
 (.cond (.s 56)
 (sr [im 57 0,iq 58 (.lenS (.s 57)),iq 2 (.mv (.c .snil)),im 3 58,ik 4 12]
 .ret)
 .skip))
 (.seq
 (.drw [im 59 7,iq 60 (.nilck (.s 59)),ia 61 1 60,il 62 61,iq 63 (.build [(ofL []), .snil] [(1,1,(.s 62))]),iq 64 (.bsl 2 1 [(ofL []), .snil] [(0,2,(.s 63))]),im 65 7,iq 66 (.nilck (.s 65)),ia 67 2 66,il 68 67,iq 69 (.app 2 (.s 64) (.s 68)),im 2 69,ik 3 0,ik 4 0] [])
 .ret)))))))}
theorem Jtz :compFn Tryz.prog Tryz.f9 [[0,5],[0,7],[0,5,7,8],[0,5,7,8],[0,5,7,8],[0,5,7,8,9],[7]]=some KY:=by kernel_rfl
def KH :Eva.Fn:={ntmps:=82,res:=[.s 2, .s 3],body:=
 (sr [iq 2 (.mv (.c .snil)),ik 3 0]
 (.seqj [0]
 (sr [im 8 0,iq 9 (.lenS (.s 8)),iq 10 (.bin .gtr (.s 9) (ci 1500))]
 (.cond (.s 10)
 (sr [iq 2 (.mv (.c .snil)),ik 3 4]
 .ret)
 .skip))
 (sr [iq 4 (.mv (.c .snil))]
 (sr [ik 5 0,ik 6 0]
 (.seqj [0,4,6]
 (.block 0
 (.loop [0,4,5,6]
 (.seqj [0,4,5,6]
 (sr [im 11 5,im 12 0,iq 13 (.lenS (.s 12)),iq 14 (.bin .lss (.s 11) (.s 13))]
 (.cond (.s 14)
 .skip
 (.exit 0)))
 (.block 1
 (.seqj [0,4,5,6]
 (sr [im 15 5,iq 16 (.bin .add (.s 15) (ci 1)),im 17 0,iq 18 (.lenS (.s 17)),iq 19 (.bin .geq (.s 16) (.s 18)),im 20 19,ig 21 20 false (.mv (.s 0)),ig 22 20 false (.mv (.s 5)),ig 23 20 false (.idxS (.s 21) (.s 22)),ig 24 20 false (.eq (.one .i) true (.s 23) (.c (.int .u8 123))),iq 25 (.pick (.s 20) (.c (.bool true)) (.s 24)),im 26 25,ig 27 26 false (.mv (.s 0)),ig 28 26 false (.mv (.s 5)),ig 29 26 false (.bin .add (.s 28) (ci 1)),ig 30 26 false (.idxS (.s 27) (.s 29)),ig 31 26 false (.eq (.one .i) true (.s 30) (.c (.int .u8 123))),iq 32 (.pick (.s 26) (.c (.bool true)) (.s 31))]
 (.cond (.s 32)
 (sr [im 33 5,iq 34 (.bin .add (.s 33) (ci 1)),im 5 34]
 (.exit 1))
 .skip))
 (.seqj [0,4,5]
 (sr [im 35 5,im 36 6,iq 37 (.bin .gtr (.s 35) (.s 36))]
 (.cond (.s 37)
 (.reg [im 38 4,im 39 0,im 40 6,im 41 5,iq 42 (.cutS (.s 39) (some (.s 40)) (some (.s 41))),im 43 6,iq 44 (.build [(.bool false),(ofL []),(.int .i64 0)] [(1,1,(.s 42)),(2,1,(.s 43))]),iq 45 (.bsl 3 1 [(.bool false),(ofL []),(.int .i64 0)] [(0,3,(.s 44))]),iq 46 (.app 3 (.s 38) (.s 45)),im 4 46])
 .skip))
 (sr [im 47 0,im 48 5,iq 49 (.bin .add (.s 48) (ci 2)),iq 50 (.call 23 [.s 47, .s 49]),im 7 50]
 (.seqj [0,4,5,7]
 (sr [im 51 7,iq 52 (.bin .lss (.s 51) (ci 0))]
 (.cond (.s 52)
 (sr [iq 2 (.mv (.c .snil)),ik 3 11]
 .ret)
 .skip))
 (sr [im 53 4,im 54 0,im 55 5,iq 56 (.bin .add (.s 55) (ci 2)),im 57 7,iq 58 (.cutS (.s 54) (some (.s 56)) (some (.s 57))),im 59 5,iq 60 (.build [(.bool false),(ofL []),(.int .i64 0)] [(0,1,(.c (.bool true))),(1,1,(.s 58)),(2,1,(.s 59))]),iq 61 (.bsl 3 1 [(.bool false),(ofL []),(.int .i64 0)] [(0,3,(.s 60))]),iq 62 (.app 3 (.s 53) (.s 61)),im 4 62]
 (sr [im 63 7,iq 64 (.bin .add (.s 63) (ci 2)),im 5 64]
 (.reg [im 65 5,im 6 65])))))))))))
 (.seqj [4]
 (sr [im 66 0,iq 67 (.lenS (.s 66)),im 68 6,iq 69 (.bin .gtr (.s 67) (.s 68))]
 (.cond (.s 69)
 (.reg [im 70 4,im 71 0,im 72 6,iq 73 (.cutS (.s 71) (some (.s 72)) none),im 74 6,iq 75 (.build [(.bool false),(ofL []),(.int .i64 0)] [(1,1,(.s 73)),(2,1,(.s 74))]),iq 76 (.bsl 3 1 [(.bool false),(ofL []),(.int .i64 0)] [(0,3,(.s 75))]),iq 77 (.app 3 (.s 70) (.s 76)),im 4 77])
 .skip))
 (.seqj [4]
 (sr [im 78 4,iq 79 (.lenL (.s 78)),iq 80 (.bin .gtr (.s 79) (ci 200))]
 (.cond (.s 80)
 (sr [iq 2 (.mv (.c .snil)),ik 3 3]
 .ret)
 .skip))
 (sr [im 81 4,im 2 81,ik 3 0]
 .ret))))))))}
theorem Jrs :compFn Tryz.prog Tryz.f14 [[0],[0,4,6],[0,4,5,6],[0,4,5,6],[0,4,5,6],[0,4,5],[0,4,5,7],[4],[4]]=some KH:=by kernel_rfl
def QD :Eva.Fn:={ntmps:=56,res:=[.s 4],body:=
 (sr [ik 4 0]
 (sr [iq 5 (.mv (.c (.bool false))),ik 6 0]
 (.seqj []
 (.block 0
 (.loop [0,1,5,6]
 (.seqj [0,1,5,6]
 (sr [im 8 1,im 9 0,iq 10 (.lenS (.s 9)),iq 11 (.bin .lss (.s 8) (.s 10))]
 (.cond (.s 11)
 .skip
 (.exit 0)))
 (.block 1
 (sr [im 12 0,im 13 1,iq 14 (.idxS (.s 12) (.s 13)),im 7 14]
 (.seqj [0,1,5,6]
 (.block 2
 (sr [im 23 5,iq 24 (.not (.s 23)),im 25 24,ig 26 25 true (.mv (.s 7)),ig 27 25 true (.eq (.one .i) false (.s 26) (.c (.int .u8 125))),iq 28 (.pick (.s 25) (.s 27) (.c (.bool false))),im 29 28,ig 30 29 true (.mv (.s 1)),ig 31 29 true (.bin .add (.s 30) (ci 1)),ig 32 29 true (.mv (.s 0)),ig 33 29 true (.lenS (.s 32)),ig 34 29 true (.bin .lss (.s 31) (.s 33)),iq 35 (.pick (.s 29) (.s 34) (.c (.bool false))),im 36 35,ig 37 36 true (.mv (.s 0)),ig 38 36 true (.mv (.s 1)),ig 39 36 true (.bin .add (.s 38) (ci 1)),ig 40 36 true (.idxS (.s 37) (.s 39)),ig 41 36 true (.eq (.one .i) false (.s 40) (.c (.int .u8 125))),iq 42 (.pick (.s 36) (.s 41) (.c (.bool false))),im 22 42]
 (.cond (.s 22)
 (sr [im 43 1,im 4 43]
 .ret)
 (sr [im 45 5,iq 46 (.not (.s 45)),im 44 46]
 (.cond (.s 44)
 (sr [im 47 7,iq 48 (.eq (.one .i) false (.s 47) (.c (.int .u8 34))),im 5 48]
 (.reg [ik 6 0]))
 (sr [im 50 7,iq 51 (.eq (.one .i) false (.s 50) (.c (.int .u8 92))),im 49 51]
 (.cond (.s 49)
 (.reg [im 52 6,iq 53 (.bin .add (.s 52) (ci 1)),im 6 53])
 (sr [im 15 7,iq 16 (.eq (.one .i) true (.s 15) (.c (.int .u8 34))),im 17 16,ig 18 17 false (.mv (.s 6)),ig 19 17 false (.bin .rem (.s 18) (ci 2)),ig 20 17 false (.eq (.one .i) false (.s 19) (ci 1)),iq 21 (.pick (.s 17) (.c (.bool true)) (.s 20)),im 5 21]
 (.reg [ik 6 0])))))))))
 (.reg [im 54 1,iq 55 (.bin .add (.s 54) (ci 1)),im 1 55])))))))
 (sr [iq 4 (.mv (.c (.int .i64 (-1))))]
 .ret))))}
theorem Jrt :compFn Tryz.prog Tryz.f23 [[],[0,1,5,6],[0,1,5,6],[0,1,5,6]]=some QD:=by kernel_rfl
def Jv :Eva.Fn:={ntmps:=166,res:=[.s 4],body:=
 (sr [iq 3 (.box (.s 1)),ik 4 0]
 (sr [ia 11 1 3,il 12 11,iq 13 (.call 24 [.s 12]),im 10 13,ie 14 0 10,ie 15 1 10,im 5 14,im 6 15]
 (.seqj [0,3,5]
 (sr [im 16 6,iq 17 (.eq (.one .i) true (.s 16) (ci 0))]
 (.cond (.s 17)
 (sr [im 18 6,im 4 18]
 .ret)
 .skip))
 (sr [im 19 5,iq 20 (.build [.snil,(.int .i64 0),(.int .i64 0)] [(0,1,(.s 19))]),iq 21 (.box (.s 20)),im 7 21]
 (sr [ia 22 2 3,il 23 22,iq 24 (.build [(.int .i64 0),(.int .i64 0),(ofL []),(ofL []), .snil, .snil, .snil,(.bool false), .snil] [(0,1,(ci 2)),(1,1,(.s 23))]),iq 8 (.alloc [(.int .i64 0),(.int .i64 0),(ofL []),(ofL []), .snil, .snil, .snil,(.bool false), .snil]),iz (.store 9 (.s 8) (.s 24))]
 (sr [iq 9 (.mv (.c (ofL [])))]
 (.seqj [0,5,7,8,9]
 (sr [im 25 7,iq 26 (.call 25 [.s 25,(ci 1)]),im 27 26,ig 28 27 true (.mv (.s 5)),ig 29 27 true (.iaddrS 4 (.s 28) (ci 0)),ig 30 27 true (.faddr 1 (.s 29)),ig 31 27 true (.load1 (.s 30)),ig 32 27 true (.call 26 [.s 31]),iq 33 (.pick (.s 27) (.s 32) (.c (.bool false))),im 34 33,ig 35 34 true (.mv (.s 5)),ig 36 34 true (.iaddrS 4 (.s 35) (ci 0)),ig 37 34 true (.faddr 1 (.s 36)),ig 38 34 true (.load1 (.s 37)),ig 39 34 true (.eq (.one .s) true (.s 38) (.c (ofL [116,114,117,101]))),iq 40 (.pick (.s 34) (.s 39) (.c (.bool false))),im 41 40,ig 42 41 true (.mv (.s 5)),ig 43 41 true (.iaddrS 4 (.s 42) (ci 0)),ig 44 41 true (.faddr 1 (.s 43)),ig 45 41 true (.load1 (.s 44)),ig 46 41 true (.eq (.one .s) true (.s 45) (.c (ofL [102,97,108,115,101]))),iq 47 (.pick (.s 41) (.s 46) (.c (.bool false)))]
 (.cond (.s 47)
 (sr [im 48 5,iq 49 (.iaddrS 4 (.s 48) (ci 0)),ia 50 1 49,il 51 50,im 9 51]
 (.reg [im 52 7,iq 53 (.nilck (.s 52)),ia 54 1 53,il 55 54,iq 56 (.bin .add (.s 55) (ci 1)),iq 57 (.nilck (.s 52)),ia 58 1 57,iz (.store 1 (.s 58) (.s 56))]))
 .skip))
 (.seqj [0,7,8,9]
 (sr [im 59 9]
 (.block 0
 (.seqj [0,5,7,8,9,59,113]
 (sr [iq 114 (.eq (.one .s) false (.s 59) (.c (ofL [105,102]))),im 113 114]
 (.cond (.s 113)
 .skip
 (sr [iq 115 (.eq (.one .s) false (.s 59) (.c (ofL [119,105,116,104]))),im 113 115]
 (.cond (.s 113)
 .skip
 (sr [iq 116 (.eq (.one .s) false (.s 59) (.c (ofL [114,97,110,103,101]))),im 113 116]
 (.cond (.s 113)
 .skip
 (.reg [iq 117 (.eq (.one .s) false (.s 59) (.c (ofL [109,97,116,99,104]))),im 113 117])))))))
 (.cond (.s 113)
 (.reg [im 118 9,iq 119 (.call 27 [.s 118]),im 120 7,iq 121 (.call 28 [.s 120,(ci 0)]),ia 122 0 8,iz (.store 1 (.s 122) (.s 119)),ia 123 4 8,iz (.store 1 (.s 123) (.s 121))])
 (.seqj [0,5,7,8,9,59,124]
 (sr [iq 125 (.eq (.one .s) false (.s 59) (.c (ofL [101,108,115,101]))),im 124 125]
 (.cond (.s 124)
 .skip
 (.reg [iq 126 (.eq (.one .s) false (.s 59) (.c (ofL [101,110,100]))),im 124 126])))
 (.cond (.s 124)
 .skip
 (sr [iq 128 (.eq (.one .s) false (.s 59) (.c (ofL [99,97,115,101]))),im 127 128]
 (.cond (.s 127)
 (.reg [im 129 7,iq 130 (.call 29 [.s 129,(ci 1)]),iq 131 (.fld 1 none (.s 130)),ia 132 3 8,iz (.store 1 (.s 132) (.s 131))])
 (.seqj [0,5,7,8,9,133]
 (sr [iq 134 (.eq (.one .s) false (.s 59) (.c (ofL [100,101,102,105,110,101]))),im 133 134]
 (.cond (.s 133)
 .skip
 (.reg [iq 135 (.eq (.one .s) false (.s 59) (.c (ofL [116,101,109,112,108,97,116,101]))),im 133 135])))
 (.cond (.s 133)
 (sr [im 136 7,iq 137 (.call 29 [.s 136,(ci 2)]),iq 138 (.fld 1 none (.s 137)),ia 139 0 8,iz (.store 1 (.s 139) (ci 9)),ia 140 3 8,iz (.store 1 (.s 140) (.s 138))]
 (sr [im 141 9,iq 142 (.eq (.one .s) false (.s 141) (.c (ofL [116,101,109,112,108,97,116,101]))),im 143 142,ig 144 143 true (.mv (.s 7)),ig 145 143 true (.nilck (.s 144)),ig 146 143 true (.faddr 1 (.s 145)),ig 147 143 true (.load1 (.s 146)),ig 148 143 true (.mv (.s 5)),ig 149 143 true (.lenL (.s 148)),ig 150 143 true (.bin .lss (.s 147) (.s 149)),iq 151 (.pick (.s 143) (.s 150) (.c (.bool false)))]
 (.cond (.s 151)
 (.reg [im 152 7,iq 153 (.call 28 [.s 152,(ci 0)]),ia 154 4 8,iz (.store 1 (.s 154) (.s 153))])
 .skip)))
 (.seqj [0,7,8,9]
 (sr [im 60 5,iq 61 (.lenL (.s 60)),iq 62 (.bin .gtr (.s 61) (ci 2)),im 63 62,ig 64 63 true (.mv (.s 7)),ig 65 63 true (.call 30 [.s 64,(.c (ofL [36]))]),iq 66 (.pick (.s 63) (.s 65) (.c (.bool false))),im 67 66,ig 68 67 true (.mv (.s 5)),ig 69 67 true (.iaddrS 4 (.s 68) (ci 1)),ig 70 67 true (.faddr 0 (.s 69)),ig 71 67 true (.load1 (.s 70)),ig 72 67 true (.eq (.one .i) false (.s 71) (ci 1)),iq 73 (.pick (.s 67) (.s 72) (.c (.bool false))),im 74 73,ig 75 74 true (.mv (.s 5)),ig 76 74 true (.iaddrS 4 (.s 75) (ci 2)),ig 77 74 true (.faddr 0 (.s 76)),ig 78 74 true (.load1 (.s 77)),ig 79 74 true (.eq (.one .i) false (.s 78) (ci 4)),iq 80 (.pick (.s 74) (.s 79) (.c (.bool false))),im 81 80,ig 82 81 true (.mv (.s 5)),ig 83 81 true (.iaddrS 4 (.s 82) (ci 2)),ig 84 81 true (.faddr 1 (.s 83)),ig 85 81 true (.load1 (.s 84)),ig 86 81 true (.eq (.one .s) false (.s 85) (.c (ofL [58,61]))),ig 87 81 true (.mv (.s 86)),ig 88 87 false (.mv (.s 5)),ig 89 87 false (.iaddrS 4 (.s 88) (ci 2)),ig 90 87 false (.faddr 1 (.s 89)),ig 91 87 false (.load1 (.s 90)),ig 92 87 false (.eq (.one .s) false (.s 91) (.c (ofL [61]))),ig 93 81 true (.pick (.s 87) (.c (.bool true)) (.s 92)),iq 94 (.pick (.s 81) (.s 93) (.c (.bool false)))]
 (.cond (.s 94)
 (.seq
 (.drw [im 95 5,iq 96 (.iaddrS 4 (.s 95) (ci 1)),ia 97 1 96,il 98 97,ia 99 0 8,iz (.store 1 (.s 99) (ci 3)),ia 100 3 8,iz (.store 1 (.s 100) (.s 98))] [([99],[97])])
 (.seqj [0,7,8,9]
 (sr [im 101 5,iq 102 (.iaddrS 4 (.s 101) (ci 2)),ia 103 1 102,il 104 103,iq 105 (.eq (.one .s) false (.s 104) (.c (ofL [61])))]
 (.cond (.s 105)
 (.reg [ia 106 0 8,iz (.store 1 (.s 106) (ci 4))])
 .skip))
 (.reg [im 107 7,iq 108 (.nilck (.s 107)),ia 109 1 108,iz (.store 1 (.s 109) (ci 3))])))
 .skip))
 (.reg [im 110 7,iq 111 (.call 28 [.s 110,(ci 0)]),ia 112 4 8,iz (.store 1 (.s 112) (.s 111))]))))))))))))
 (.seqj [0,8,9]
 (sr [im 155 7,iq 156 (.call 31 [.s 155]),iq 157 (.eq (.one .i) true (.s 156) (ci 0))]
 (.cond (.s 157)
 (sr [im 158 7,iq 159 (.nilck (.s 158)),ia 160 2 159,il 161 160,im 4 161]
 .ret)
 .skip))
 (sr [im 162 0,im 163 9,iq 164 (.loadn 9 (.s 8)),iq 165 (.call 32 [.s 162, .s 163, .s 164]),im 4 165]
 .ret))))))))))}
theorem Jru :compFn Tryz.prog Tryz.f15 [[0,3,5],[0,5,7,8,9],[0,7,8,9],[0,5,7,8,9,59,113],[0,5,7,8,9,59,124],[0,5,7,8,9,133],[0,7,8,9],[0,7,8,9],[0,8,9]]=some Jv:=by kernel_rfl
def Qo :Eva.Fn:={ntmps:=41,res:=[.s 2, .s 3],body:=
 (sr [iq 2 (.mv (.c .snil)),ik 3 0]
 (.seqj [0]
 (sr [im 9 0,iq 10 (.lenS (.s 9)),iq 11 (.bin .gtr (.s 10) (ci 1500))]
 (.cond (.s 11)
 (sr [iq 2 (.mv (.c .snil)),ik 3 4]
 .ret)
 .skip))
 (sr [iq 4 (.mv (.c .snil))]
 (sr [ik 5 0]
 (.seqj [4]
 (.block 0
 (.loop [0,4,5]
 (.seqj [0,4,5]
 (sr [im 12 5,im 13 0,iq 14 (.lenS (.s 13)),iq 15 (.bin .lss (.s 12) (.s 14))]
 (.cond (.s 15)
 .skip
 (.exit 0)))
 (.block 1
 (.seqj [0,4,5]
 (sr [im 16 0,im 17 5,iq 18 (.idxS (.s 16) (.s 17)),iq 19 (.call 55 [.s 18])]
 (.cond (.s 19)
 (sr [im 20 5,iq 21 (.bin .add (.s 20) (ci 1)),im 5 21]
 (.exit 1))
 .skip))
 (sr [im 23 0,im 24 5,iq 25 (.call 56 [.s 23, .s 24]),im 22 25,ie 26 0 22,ie 27 1 22,ie 28 2 22,iq 6 (.alloc [(.int .i64 0),(ofL []),(.int .i64 0),(.int .i64 0)]),iz (.store 4 (.s 6) (.s 26)),im 7 27,im 8 28]
 (.seqj [0,4,6,7]
 (sr [im 29 8,iq 30 (.eq (.one .i) true (.s 29) (ci 0))]
 (.cond (.s 30)
 (sr [im 31 8,iq 2 (.mv (.c .snil)),im 3 31]
 .ret)
 .skip))
 (sr [im 32 4,iq 33 (.loadn 4 (.s 6)),iq 34 (.bsl 4 1 [(.int .i64 0),(ofL []),(.int .i64 0),(.int .i64 0)] [(0,4,(.s 33))]),iq 35 (.app 4 (.s 32) (.s 34)),im 4 35]
 (.reg [im 36 7,im 5 36])))))))))
 (.seqj [4]
 (sr [im 37 4,iq 38 (.lenL (.s 37)),iq 39 (.bin .gtr (.s 38) (ci 400))]
 (.cond (.s 39)
 (sr [iq 2 (.mv (.c .snil)),ik 3 3]
 .ret)
 .skip))
 (sr [im 40 4,im 2 40,ik 3 0]
 .ret)))))))}
theorem Jrv :compFn Tryz.prog Tryz.f24 [[0],[4],[0,4,5],[0,4,5],[0,4,5],[0,4,6,7],[4]]=some Qo:=by kernel_rfl
def QE :Eva.Fn:={ntmps:=17,res:=[.s 2],body:=
 (sr [iq 2 (.mv (.c (.bool false)))]
 (sr [im 3 0,iq 4 (.eq (.one .i) false (.s 3) (.c (.int .u8 32))),im 5 4,ig 6 5 false (.mv (.s 0)),ig 7 5 false (.eq (.one .i) false (.s 6) (.c (.int .u8 9))),iq 8 (.pick (.s 5) (.c (.bool true)) (.s 7)),im 9 8,ig 10 9 false (.mv (.s 0)),ig 11 9 false (.eq (.one .i) false (.s 10) (.c (.int .u8 10))),iq 12 (.pick (.s 9) (.c (.bool true)) (.s 11)),im 13 12,ig 14 13 false (.mv (.s 0)),ig 15 13 false (.eq (.one .i) false (.s 14) (.c (.int .u8 13))),iq 16 (.pick (.s 13) (.c (.bool true)) (.s 15)),im 2 16]
 .ret))}
theorem Jrw :compFn Tryz.prog Tryz.f55 []=some QE:=by kernel_rfl
def QM :Eva.Fn:={ntmps:=177,res:=[(.cn 4 4), .s 5, .s 6],body:=
 (sr [iq 4 (.alloc [(.int .i64 0),(ofL []),(.int .i64 0),(.int .i64 0)]),ik 5 0,ik 6 0]
 (sr [im 14 1,im 7 14]
 (.seqj [0,1,4]
 (.block 0
 (sr [im 16 0,im 17 1,iq 18 (.idxS (.s 16) (.s 17)),iq 19 (.call 81 [.s 18]),im 15 19]
 (.cond (.s 15)
 (.seqj [0,1,4,7]
 (.block 1
 (.loop [0,1,4,7]
 (.seqj [0,1,4,7]
 (sr [im 20 7,im 21 0,iq 22 (.lenS (.s 21)),iq 23 (.bin .lss (.s 20) (.s 22)),im 24 23,ig 25 24 true (.mv (.s 0)),ig 26 24 true (.mv (.s 7)),ig 27 24 true (.idxS (.s 25) (.s 26)),ig 28 24 true (.call 81 [.s 27]),ig 29 24 true (.mv (.s 28)),ig 30 29 false (.mv (.s 0)),ig 31 29 false (.mv (.s 7)),ig 32 29 false (.idxS (.s 30) (.s 31)),ig 33 29 false (.call 82 [.s 32]),ig 34 24 true (.pick (.s 29) (.c (.bool true)) (.s 33)),iq 35 (.pick (.s 24) (.s 34) (.c (.bool false)))]
 (.cond (.s 35)
 .skip
 (.exit 1)))
 (.block 2
 (.reg [im 36 7,iq 37 (.bin .add (.s 36) (ci 1)),im 7 37])))))
 (.seqj [0,1,4,7]
 (sr [im 38 7,im 39 1,iq 40 (.bin .sub (.s 38) (.s 39)),iq 41 (.bin .gtr (.s 40) (ci 16))]
 (.cond (.s 41)
 (sr [iq 42 (.build [(.int .i64 0),(ofL []),(.int .i64 0),(.int .i64 0)] []),iz (.store 4 (.s 4) (.s 42)),ik 5 0,ik 6 4]
 .ret)
 .skip))
 (sr [im 43 0,im 44 1,im 45 7,iq 46 (.cutS (.s 43) (some (.s 44)) (some (.s 45))),im 47 1,iq 48 (.build [(.int .i64 0),(ofL []),(.int .i64 0),(.int .i64 0)] [(0,1,(ci 1)),(1,1,(.s 46)),(3,1,(.s 47))]),im 49 7,iz (.store 4 (.s 4) (.s 48)),im 5 49,ik 6 0]
 .ret)))
 (sr [im 51 0,im 52 1,iq 53 (.idxS (.s 51) (.s 52)),iq 54 (.call 82 [.s 53]),im 55 54,ig 56 55 false (.mv (.s 0)),ig 57 55 false (.mv (.s 1)),ig 58 55 false (.idxS (.s 56) (.s 57)),ig 59 55 false (.eq (.one .i) false (.s 58) (.c (.int .u8 45))),ig 60 55 false (.mv (.s 59)),ig 61 60 true (.mv (.s 1)),ig 62 60 true (.bin .add (.s 61) (ci 1)),ig 63 60 true (.mv (.s 0)),ig 64 60 true (.lenS (.s 63)),ig 65 60 true (.bin .lss (.s 62) (.s 64)),ig 66 55 false (.pick (.s 60) (.s 65) (.c (.bool false))),ig 67 55 false (.mv (.s 66)),ig 68 67 true (.mv (.s 0)),ig 69 67 true (.mv (.s 1)),ig 70 67 true (.bin .add (.s 69) (ci 1)),ig 71 67 true (.idxS (.s 68) (.s 70)),ig 72 67 true (.call 82 [.s 71]),ig 73 55 false (.pick (.s 67) (.s 72) (.c (.bool false))),iq 74 (.pick (.s 55) (.c (.bool true)) (.s 73)),im 50 74]
 (.cond (.s 50)
 (sr [im 75 7,iq 76 (.bin .add (.s 75) (ci 1)),im 7 76]
 (.seqj [0,1,4,7]
 (.block 3
 (.loop [0,1,4,7]
 (.seqj [0,1,4,7]
 (sr [im 77 7,im 78 0,iq 79 (.lenS (.s 78)),iq 80 (.bin .lss (.s 77) (.s 79)),im 81 80,ig 82 81 true (.mv (.s 0)),ig 83 81 true (.mv (.s 7)),ig 84 81 true (.idxS (.s 82) (.s 83)),ig 85 81 true (.call 82 [.s 84]),iq 86 (.pick (.s 81) (.s 85) (.c (.bool false)))]
 (.cond (.s 86)
 .skip
 (.exit 3)))
 (.block 4
 (.reg [im 87 7,iq 88 (.bin .add (.s 87) (ci 1)),im 7 88])))))
 (sr [im 90 0,im 91 1,im 92 7,iq 93 (.cutS (.s 90) (some (.s 91)) (some (.s 92))),iq 94 (.call 86 [.s 93]),im 89 94,ie 95 0 89,ie 96 1 89,im 8 95,im 9 96]
 (sr [im 97 8,im 98 1,iq 99 (.build [(.int .i64 0),(ofL []),(.int .i64 0),(.int .i64 0)] [(0,1,(ci 3)),(2,1,(.s 97)),(3,1,(.s 98))]),im 100 7,im 101 9,iz (.store 4 (.s 4) (.s 99)),im 5 100,im 6 101]
 .ret))))
 (sr [im 103 0,im 104 1,iq 105 (.idxS (.s 103) (.s 104)),iq 106 (.eq (.one .i) false (.s 105) (.c (.int .u8 34))),im 102 106]
 (.cond (.s 102)
 (sr [im 108 0,im 109 1,iq 110 (.call 87 [.s 108, .s 109]),im 107 110,ie 111 0 107,ie 112 1 107,im 10 111,im 11 112]
 (.seqj [1,4,10,11]
 (sr [im 113 11,iq 114 (.bin .lss (.s 113) (ci 0))]
 (.cond (.s 114)
 (sr [iq 115 (.build [(.int .i64 0),(ofL []),(.int .i64 0),(.int .i64 0)] []),iz (.store 4 (.s 4) (.s 115)),ik 5 0,ik 6 11]
 .ret)
 .skip))
 (.seqj [1,4,10,11]
 (sr [im 116 10,iq 117 (.lenS (.s 116)),iq 118 (.bin .gtr (.s 117) (ci 200))]
 (.cond (.s 118)
 (sr [iq 119 (.build [(.int .i64 0),(ofL []),(.int .i64 0),(.int .i64 0)] []),iz (.store 4 (.s 4) (.s 119)),ik 5 0,ik 6 4]
 .ret)
 .skip))
 (sr [im 120 10,im 121 1,iq 122 (.build [(.int .i64 0),(ofL []),(.int .i64 0),(.int .i64 0)] [(0,1,(ci 2)),(1,1,(.s 120)),(3,1,(.s 121))]),im 123 11,iz (.store 4 (.s 4) (.s 122)),im 5 123,ik 6 0]
 .ret))))
 .skip)))))))
 (.seqj [0,1,4]
 (sr [im 124 1,iq 125 (.bin .add (.s 124) (ci 2)),im 126 0,iq 127 (.lenS (.s 126)),iq 128 (.bin .leq (.s 125) (.s 127)),im 129 128,ig 130 129 true (.mv (.s 0)),ig 131 129 true (.mv (.s 1)),ig 132 129 true (.mv (.s 1)),ig 133 129 true (.bin .add (.s 132) (ci 2)),ig 134 129 true (.cutS (.s 130) (some (.s 131)) (some (.s 133))),ig 135 129 true (.eq (.one .s) false (.s 134) (.c (ofL [45,62]))),ig 136 129 true (.mv (.s 135)),ig 137 136 false (.mv (.s 0)),ig 138 136 false (.mv (.s 1)),ig 139 136 false (.mv (.s 1)),ig 140 136 false (.bin .add (.s 139) (ci 2)),ig 141 136 false (.cutS (.s 137) (some (.s 138)) (some (.s 140))),ig 142 136 false (.eq (.one .s) false (.s 141) (.c (ofL [58,61]))),ig 143 129 true (.pick (.s 136) (.c (.bool true)) (.s 142)),iq 144 (.pick (.s 129) (.s 143) (.c (.bool false)))]
 (.cond (.s 144)
 (sr [im 145 0,im 146 1,im 147 1,iq 148 (.bin .add (.s 147) (ci 2)),iq 149 (.cutS (.s 145) (some (.s 146)) (some (.s 148))),im 150 1,iq 151 (.build [(.int .i64 0),(ofL []),(.int .i64 0),(.int .i64 0)] [(0,1,(ci 4)),(1,1,(.s 149)),(3,1,(.s 150))]),im 152 1,iq 153 (.bin .add (.s 152) (ci 2)),iz (.store 4 (.s 4) (.s 151)),im 5 153,ik 6 0]
 .ret)
 .skip))
 (sr [iq 12 (.mv (.c (ofL [123,125,60,62,44,58,40,41,46,36,124,61,59])))]
 (.seqj [4]
 (sr [ik 13 0]
 (.block 5
 (.loop [0,1,4,12,13]
 (.seqj [0,1,4,12,13]
 (sr [im 154 13,im 155 12,iq 156 (.lenS (.s 155)),iq 157 (.bin .lss (.s 154) (.s 156))]
 (.cond (.s 157)
 .skip
 (.exit 5)))
 (.seqj [0,1,4,12,13]
 (.block 6
 (.seq
 (.drw [im 160 12,im 161 13,iq 162 (.idxS (.s 160) (.s 161)),im 163 0,im 164 1,iq 165 (.idxS (.s 163) (.s 164)),iq 166 (.eq (.one .i) false (.s 162) (.s 165))] [])
 (.cond (.s 166)
 (sr [im 167 0,im 168 1,im 169 1,iq 170 (.bin .add (.s 169) (ci 1)),iq 171 (.cutS (.s 167) (some (.s 168)) (some (.s 170))),im 172 1,iq 173 (.build [(.int .i64 0),(ofL []),(.int .i64 0),(.int .i64 0)] [(0,1,(ci 4)),(1,1,(.s 171)),(3,1,(.s 172))]),im 174 1,iq 175 (.bin .add (.s 174) (ci 1)),iz (.store 4 (.s 4) (.s 173)),im 5 175,ik 6 0]
 .ret)
 .skip)))
 (.reg [im 158 13,iq 159 (.bin .add (.s 158) (ci 1)),im 13 159]))))))
 (sr [iq 176 (.build [(.int .i64 0),(ofL []),(.int .i64 0),(.int .i64 0)] []),iz (.store 4 (.s 4) (.s 176)),ik 5 0,ik 6 11]
 .ret)))))))}
theorem Jrx :compFn Tryz.prog Tryz.f56 [[0,1,4],[0,1,4,7],[0,1,4,7],[0,1,4,7],[0,1,4,7],[0,1,4,7],[0,1,4,7],[0,1,4,7],[1,4,10,11],[1,4,10,11],[0,1,4],[4],[0,1,4,12,13],[0,1,4,12,13],[0,1,4,12,13]]=some QM:=by kernel_rfl
def Qp :Eva.Fn:={ntmps:=42,res:=[.s 2, .s 3],body:=
 (sr [ik 2 0,ik 3 0]
 (sr [im 7 0,im 4 7]
 (.seqj [0,4]
 (sr [im 8 0,iq 9 (.idxS (.s 8) (ci 0)),iq 10 (.eq (.one .i) false (.s 9) (.c (.int .u8 45)))]
 (.cond (.s 10)
 (.reg [im 11 0,iq 12 (.cutS (.s 11) (some (ci 1)) none),im 4 12])
 .skip))
 (.seqj [0,4]
 (sr [im 13 4,iq 14 (.lenS (.s 13)),iq 15 (.bin .gtr (.s 14) (ci 19))]
 (.cond (.s 15)
 (sr [ik 2 0,ik 3 4]
 .ret)
 .skip))
 (sr [iq 5 (.mv (.c (.int .u64 0)))]
 (.seqj [0,5]
 (sr [ik 6 0]
 (.block 0
 (.loop [0,4,5,6]
 (.seqj [0,4,5,6]
 (sr [im 16 6,im 17 4,iq 18 (.lenS (.s 17)),iq 19 (.bin .lss (.s 16) (.s 18))]
 (.cond (.s 19)
 .skip
 (.exit 0)))
 (.seqj [0,4,5,6]
 (.block 1
 (.reg [im 22 5,iq 23 (.bin .mul (.s 22) (.c (.int .u64 10))),im 24 4,im 25 6,iq 26 (.idxS (.s 24) (.s 25)),iq 27 (.bin .sub (.s 26) (.c (.int .u8 48))),iq 28 (.toint .u64 (.s 27)),iq 29 (.bin .add (.s 23) (.s 28)),im 5 29]))
 (.reg [im 20 6,iq 21 (.bin .add (.s 20) (ci 1)),im 6 21]))))))
 (.seqj [5]
 (sr [im 30 0,iq 31 (.idxS (.s 30) (ci 0)),iq 32 (.eq (.one .i) false (.s 31) (.c (.int .u8 45)))]
 (.cond (.s 32)
 (.seqj [5]
 (sr [im 33 5,iq 34 (.bin .gtr (.s 33) (.c (.int .u64 9223372036854775808)))]
 (.cond (.s 34)
 (sr [ik 2 0,ik 3 11]
 .ret)
 .skip))
 (sr [im 35 5,iq 36 (.neg (.s 35)),iq 37 (.toint .i64 (.s 36)),im 2 37,ik 3 0]
 .ret))
 .skip))
 (.seqj [5]
 (sr [im 38 5,iq 39 (.bin .gtr (.s 38) (.c (.int .u64 9223372036854775807)))]
 (.cond (.s 39)
 (sr [ik 2 0,ik 3 11]
 .ret)
 .skip))
 (sr [im 40 5,iq 41 (.toint .i64 (.s 40)),im 2 41,ik 3 0]
 .ret)))))))))}
theorem Jry :compFn Tryz.prog Tryz.f86 [[0,4],[0,4],[0,5],[0,4,5,6],[0,4,5,6],[0,4,5,6],[5],[5],[5]]=some Qp:=by kernel_rfl
def Ko :Eva.Fn:={ntmps:=37,res:=[.s 4],body:=
 (sr [iq 4 (.mv (.c (.bool false)))]
 (.seq
 (.drw [im 5 0,iq 6 (.nilck (.s 5)),ia 7 2 6,il 8 7,iq 9 (.eq (.one .i) false (.s 8) (ci 0)),im 10 9,ig 11 10 true (.mv (.s 0)),ig 12 10 true (.nilck (.s 11)),ig 13 10 true (.faddr 1 (.s 12)),ig 14 10 true (.load1 (.s 13)),ig 15 10 true (.mv (.s 0)),ig 16 10 true (.nilck (.s 15)),ig 17 10 true (.faddr 0 (.s 16)),ig 18 10 true (.load1 (.s 17)),ig 19 10 true (.lenL (.s 18)),ig 20 10 true (.bin .lss (.s 14) (.s 19)),iq 21 (.pick (.s 10) (.s 20) (.c (.bool false))),im 22 21,ig 23 22 true (.mv (.s 0)),ig 24 22 true (.nilck (.s 23)),ig 25 22 true (.faddr 0 (.s 24)),ig 26 22 true (.load1 (.s 25)),ig 27 22 true (.mv (.s 0)),ig 28 22 true (.nilck (.s 27)),ig 29 22 true (.faddr 1 (.s 28)),ig 30 22 true (.load1 (.s 29)),ig 31 22 true (.iaddrS 4 (.s 26) (.s 30)),ig 32 22 true (.faddr 0 (.s 31)),ig 33 22 true (.load1 (.s 32)),ig 34 22 true (.mv (.s 1)),ig 35 22 true (.eq (.one .i) false (.s 33) (.s 34)),iq 36 (.pick (.s 22) (.s 35) (.c (.bool false))),im 4 36] [])
 .ret))}
theorem Jrz :compFn Tryz.prog Tryz.f25 []=some Ko:=by kernel_rfl
def QN :Eva.Fn:={ntmps:=16,res:=[.s 2],body:=
 (sr [iq 2 (.mv (.c (.bool false)))]
 (.seqj []
 (sr [im 3 0]
 (.block 0
 (.seqj [4]
 (sr [iq 5 (.eq (.one .s) false (.s 3) (.c (ofL [105,102]))),im 4 5]
 (.cond (.s 4)
 .skip
 (sr [iq 6 (.eq (.one .s) false (.s 3) (.c (ofL [119,105,116,104]))),im 4 6]
 (.cond (.s 4)
 .skip
 (sr [iq 7 (.eq (.one .s) false (.s 3) (.c (ofL [114,97,110,103,101]))),im 4 7]
 (.cond (.s 4)
 .skip
 (sr [iq 8 (.eq (.one .s) false (.s 3) (.c (ofL [109,97,116,99,104]))),im 4 8]
 (.cond (.s 4)
 .skip
 (sr [iq 9 (.eq (.one .s) false (.s 3) (.c (ofL [101,108,115,101]))),im 4 9]
 (.cond (.s 4)
 .skip
 (sr [iq 10 (.eq (.one .s) false (.s 3) (.c (ofL [101,110,100]))),im 4 10]
 (.cond (.s 4)
 .skip
 (sr [iq 11 (.eq (.one .s) false (.s 3) (.c (ofL [99,97,115,101]))),im 4 11]
 (.cond (.s 4)
 .skip
 (sr [iq 12 (.eq (.one .s) false (.s 3) (.c (ofL [116,101,109,112,108,97,116,101]))),im 4 12]
 (.cond (.s 4)
 .skip
 (sr [iq 13 (.eq (.one .s) false (.s 3) (.c (ofL [100,101,102,105,110,101]))),im 4 13]
 (.cond (.s 4)
 .skip
 (sr [iq 14 (.eq (.one .s) false (.s 3) (.c (ofL [116,114,117,101]))),im 4 14]
 (.cond (.s 4)
 .skip
 (.reg [iq 15 (.eq (.one .s) false (.s 3) (.c (ofL [102,97,108,115,101]))),im 4 15])))))))))))))))))))))
 (.cond (.s 4)
 (sr [iq 2 (.mv (.c (.bool true)))]
 .ret)
 .skip))))
 (sr [iq 2 (.mv (.c (.bool false)))]
 .ret)))}
theorem JrA :compFn Tryz.prog Tryz.f26 [[],[4]]=some QN:=by kernel_rfl
def QO :Eva.Fn:={ntmps:=10,res:=[.s 2],body:=
 (sr [ik 2 0]
 (.seqj []
 (sr [im 3 0]
 (.block 0
 (sr [iq 5 (.eq (.one .s) false (.s 3) (.c (ofL [105,102]))),im 4 5]
 (.cond (.s 4)
 (sr [ik 2 5]
 .ret)
 (sr [iq 7 (.eq (.one .s) false (.s 3) (.c (ofL [119,105,116,104]))),im 6 7]
 (.cond (.s 6)
 (sr [ik 2 6]
 .ret)
 (sr [iq 9 (.eq (.one .s) false (.s 3) (.c (ofL [114,97,110,103,101]))),im 8 9]
 (.cond (.s 8)
 (sr [ik 2 7]
 .ret)
 .skip))))))))
 (sr [ik 2 8]
 .ret)))}
theorem JrB :compFn Tryz.prog Tryz.f27 [[]]=some QO:=by kernel_rfl
def Kq :Eva.Fn:={ntmps:=26,res:=[.s 4],body:=
 (sr [iq 4 (.mv (.c .snil))]
 (sr [im 6 0,im 7 1,iq 8 (.call 57 [.s 6, .s 7]),iq 9 (.bsl 1 1 [.snil] [(0,1,(.s 8))]),im 5 9]
 (.seqj [5]
 (.block 0
 (.loop [0,1,5]
 (.seqj [0,1,5]
 (sr [im 10 0,iq 11 (.call 30 [.s 10,(.c (ofL [124]))])]
 (.cond (.s 11)
 .skip
 (.exit 0)))
 (.block 1
 (sr [im 12 0,iq 13 (.nilck (.s 12)),ia 14 1 13,il 15 14,iq 16 (.bin .add (.s 15) (ci 1)),iq 17 (.nilck (.s 12)),ia 18 1 17,iz (.store 1 (.s 18) (.s 16))]
 (.reg [im 19 5,im 20 0,im 21 1,iq 22 (.call 57 [.s 20, .s 21]),iq 23 (.bsl 1 1 [.snil] [(0,1,(.s 22))]),iq 24 (.app 1 (.s 19) (.s 23)),im 5 24]))))))
 (sr [im 25 5,im 4 25]
 .ret))))}
theorem JrC :compFn Tryz.prog Tryz.f28 [[5],[0,1,5],[0,1,5]]=some Kq:=by kernel_rfl
def JY :Eva.Fn:={ntmps:=52,res:=[(.cn 4 1)],body:=
 (sr [iq 4 (.alloc [.snil])]
 (.seqj [0,1,4]
 (.seq
 (.drw [im 6 0,⟨(some 7),(.call 25 [.s 6,(ci 1)]),none,(some [])⟩,iq 8 (.not (.s 7)),im 9 8,ig 10 9 false (.mv (.s 0)),ig 11 9 false (.nilck (.s 10)),ig 12 9 false (.faddr 0 (.s 11)),ig 13 9 false (.load1 (.s 12)),ig 14 9 false (.mv (.s 0)),ig 15 9 false (.nilck (.s 14)),ig 16 9 false (.faddr 1 (.s 15)),ig 17 9 false (.load1 (.s 16)),ig 18 9 false (.iaddrS 4 (.s 13) (.s 17)),ig 19 9 false (.faddr 1 (.s 18)),ig 20 9 false (.load1 (.s 19)),⟨(some 21),(.call 26 [.s 20]),(some (9,false)),(some [])⟩,iq 22 (.pick (.s 9) (.c (.bool true)) (.s 21))] [])
 (.cond (.s 22)
 (sr [im 23 0,im 24 1,iq 25 (.call 88 [.s 23, .s 24]),iq 26 (.bsl 7 1 [(.int .i64 0),(ofL []), .snil,(ofL []),(.int .i64 0),(.bool false), .snil] [(0,7,(.s 25))]),iq 27 (.build [.snil] [(0,1,(.s 26))]),iz (.store 1 (.s 4) (.s 27))]
 .ret)
 .skip))
 (sr [im 28 0,iq 29 (.call 29 [.s 28,(ci 1)]),iq 30 (.fld 1 none (.s 29)),iq 31 (.build [(.int .i64 0),(ofL []), .snil,(ofL []),(.int .i64 0),(.bool false), .snil] [(0,1,(ci 6)),(3,1,(.s 30))]),iq 32 (.bsl 7 1 [(.int .i64 0),(ofL []), .snil,(ofL []),(.int .i64 0),(.bool false), .snil] [(0,7,(.s 31))]),iq 33 (.build [.snil] [(0,1,(.s 32))]),iq 5 (.alloc [.snil]),iz (.store 1 (.s 5) (.s 33))]
 (.seqj [4,5]
 (.block 0
 (.loop [0,1,4,5]
 (.seqj [0,1,4,5]
 (sr [im 34 0,iq 35 (.call 89 [.s 34])]
 (.cond (.s 35)
 .skip
 (.exit 0)))
 (.block 1
 (.seqj [0,1,4,5]
 (sr [ia 36 0 5,il 37 36,iq 38 (.lenL (.s 37)),iq 39 (.bin .gtr (.s 38) (ci 4))]
 (.cond (.s 39)
 (sr [im 40 0,iq 41 (.call 58 [.s 40,(ci 18)])]
 (sr [iq 42 (.loadn 1 (.s 5)),iz (.store 1 (.s 4) (.s 42))]
 .ret))
 .skip))
 (.drw [ia 43 0 5,il 44 43,im 45 0,im 46 1,⟨(some 47),(.call 88 [.s 45, .s 46]),none,(some [43])⟩,iq 48 (.bsl 7 1 [(.int .i64 0),(ofL []), .snil,(ofL []),(.int .i64 0),(.bool false), .snil] [(0,7,(.s 47))]),iq 49 (.app 7 (.s 44) (.s 48)),ia 50 0 5,iz (.store 1 (.s 50) (.s 49))] []))))))
 (sr [iq 51 (.loadn 1 (.s 5)),iz (.store 1 (.s 4) (.s 51))]
 .ret)))))}
theorem JrD :compFn Tryz.prog Tryz.f57 [[0,1,4],[4,5],[0,1,4,5],[0,1,4,5],[0,1,4,5]]=some JY:=by kernel_rfl
def JZ :Eva.Fn:={ntmps:=131,res:=[(.cn 4 7)],body:=
 (sr [iq 4 (.alloc [(.int .i64 0),(ofL []), .snil,(ofL []),(.int .i64 0),(.bool false), .snil])]
 (.seqj [0,1,4]
 (sr [im 9 0,iq 10 (.call 89 [.s 9]),iq 11 (.not (.s 10))]
 (.cond (.s 11)
 (sr [im 12 0,iq 13 (.call 58 [.s 12,(ci 12)])]
 (sr [iq 14 (.build [(.int .i64 0),(ofL []), .snil,(ofL []),(.int .i64 0),(.bool false), .snil] []),iz (.store 7 (.s 4) (.s 14))]
 .ret))
 .skip))
 (.seq
 (.drw [im 15 0,iq 16 (.nilck (.s 15)),ia 17 0 16,il 18 17,im 19 0,iq 20 (.nilck (.s 19)),ia 21 1 20,il 22 21,iq 23 (.iaddrS 4 (.s 18) (.s 22)),iq 24 (.loadn 4 (.s 23)),iq 5 (.alloc [(.int .i64 0),(ofL []),(.int .i64 0),(.int .i64 0)]),iz (.store 4 (.s 5) (.s 24))] [])
 (.seqj [0,4]
 (.block 0
 (sr [ia 26 0 5,il 27 26,iq 28 (.eq (.one .i) false (.s 27) (ci 2)),im 25 28]
 (.cond (.s 25)
 (sr [im 29 0,iq 30 (.nilck (.s 29)),ia 31 1 30,il 32 31,iq 33 (.bin .add (.s 32) (ci 1)),iq 34 (.nilck (.s 29)),ia 35 1 34,iz (.store 1 (.s 35) (.s 33))]
 (sr [ia 36 1 5,il 37 36,iq 38 (.build [(.int .i64 0),(ofL []), .snil,(ofL []),(.int .i64 0),(.bool false), .snil] [(0,1,(ci 2)),(3,1,(.s 37))]),iz (.store 7 (.s 4) (.s 38))]
 .ret))
 (sr [ia 40 0 5,il 41 40,iq 42 (.eq (.one .i) false (.s 41) (ci 3)),im 39 42]
 (.cond (.s 39)
 (sr [im 43 0,iq 44 (.nilck (.s 43)),ia 45 1 44,il 46 45,iq 47 (.bin .add (.s 46) (ci 1)),iq 48 (.nilck (.s 43)),ia 49 1 48,iz (.store 1 (.s 49) (.s 47))]
 (sr [ia 50 2 5,il 51 50,iq 52 (.build [(.int .i64 0),(ofL []), .snil,(ofL []),(.int .i64 0),(.bool false), .snil] [(0,1,(ci 3)),(4,1,(.s 51))]),iz (.store 7 (.s 4) (.s 52))]
 .ret))
 (sr [ia 54 0 5,il 55 54,iq 56 (.eq (.one .i) false (.s 55) (ci 1)),im 53 56]
 (.cond (.s 53)
 (sr [im 57 0,iq 58 (.nilck (.s 57)),ia 59 1 58,il 60 59,iq 61 (.bin .add (.s 60) (ci 1)),iq 62 (.nilck (.s 57)),ia 63 1 62,iz (.store 1 (.s 63) (.s 61))]
 (sr [ia 64 1 5,il 65 64,iq 66 (.eq (.one .s) false (.s 65) (.c (ofL [116,114,117,101]))),iq 67 (.build [(.int .i64 0),(ofL []), .snil,(ofL []),(.int .i64 0),(.bool false), .snil] [(0,1,(ci 4)),(5,1,(.s 66))]),iz (.store 7 (.s 4) (.s 67))]
 .ret))
 (sr [ia 69 1 5,il 70 69,iq 71 (.eq (.one .s) false (.s 70) (.c (ofL [36]))),im 68 71]
 (.cond (.s 68)
 (sr [im 72 0,iq 73 (.nilck (.s 72)),ia 74 1 73,il 75 74,iq 76 (.bin .add (.s 75) (ci 1)),iq 77 (.nilck (.s 72)),ia 78 1 77,iz (.store 1 (.s 78) (.s 76))]
 (sr [im 79 0,iq 80 (.call 29 [.s 79,(ci 1)]),iq 6 (.alloc [(.int .i64 0),(ofL []),(.int .i64 0),(.int .i64 0)]),iz (.store 4 (.s 6) (.s 80))]
 (.seq
 (.drw [ia 81 1 6,il 82 81,im 83 0,ia 84 3 6,il 85 84,ia 86 1 6,il 87 86,iq 88 (.lenS (.s 87)),iq 89 (.bin .add (.s 85) (.s 88)),⟨(some 90),(.call 116 [.s 83, .s 89]),none,(some [81])⟩,iq 91 (.build [(.int .i64 0),(ofL []), .snil,(ofL []),(.int .i64 0),(.bool false), .snil] [(0,1,(ci 1)),(1,1,(.s 82)),(2,1,(.s 90))]),iz (.store 7 (.s 4) (.s 91))] [])
 .ret)))
 (sr [ia 93 1 5,il 94 93,iq 95 (.eq (.one .s) false (.s 94) (.c (ofL [40]))),im 92 95]
 (.cond (.s 92)
 (.seqj [0,1,4]
 (sr [im 96 1,iq 97 (.bin .add (.s 96) (ci 1)),iq 98 (.bin .gtr (.s 97) (ci 12))]
 (.cond (.s 98)
 (sr [im 99 0,iq 100 (.call 58 [.s 99,(ci 13)])]
 (sr [iq 101 (.build [(.int .i64 0),(ofL []), .snil,(ofL []),(.int .i64 0),(.bool false), .snil] []),iz (.store 7 (.s 4) (.s 101))]
 .ret))
 .skip))
 (sr [im 102 0,iq 103 (.nilck (.s 102)),ia 104 1 103,il 105 104,iq 106 (.bin .add (.s 105) (ci 1)),iq 107 (.nilck (.s 102)),ia 108 1 107,iz (.store 1 (.s 108) (.s 106))]
 (sr [im 109 0,im 110 1,iq 111 (.bin .add (.s 110) (ci 1)),iq 112 (.call 28 [.s 109, .s 111]),im 7 112]
 (sr [im 113 0,iq 114 (.call 117 [.s 113,(.c (ofL [41]))])]
 (sr [im 115 7,iq 116 (.build [(.int .i64 0),(ofL []), .snil,(ofL []),(.int .i64 0),(.bool false), .snil] [(0,1,(ci 5)),(6,1,(.s 115))]),iz (.store 7 (.s 4) (.s 116))]
 .ret)))))
 .skip)))))))))))
 (sr [im 117 0,iq 118 (.call 116 [.s 117,(.c (.int .i64 (-1)))]),im 8 118]
 (.seqj [4,8]
 (sr [im 119 8,iq 120 (.lenL (.s 119)),iq 121 (.eq (.one .i) false (.s 120) (ci 0))]
 (.cond (.s 121)
 (.reg [im 122 0,iq 123 (.nilck (.s 122)),ia 124 1 123,il 125 124,iq 126 (.bin .add (.s 125) (ci 1)),iq 127 (.nilck (.s 122)),ia 128 1 127,iz (.store 1 (.s 128) (.s 126))])
 .skip))
 (sr [im 129 8,iq 130 (.build [(.int .i64 0),(ofL []), .snil,(ofL []),(.int .i64 0),(.bool false), .snil] [(0,1,(ci 1)),(2,1,(.s 129))]),iz (.store 7 (.s 4) (.s 130))]
 .ret)))))))}
theorem JrE :compFn Tryz.prog Tryz.f88 [[0,1,4],[0,4],[0,1,4],[4,8]]=some JZ:=by kernel_rfl
def Kc :Eva.Fn:={ntmps:=53,res:=[.s 2],body:=
 (sr [iq 2 (.mv (.c (.bool false)))]
 (.seq
 (.drw [im 3 0,⟨(some 4),(.call 25 [.s 3,(ci 2)]),none,(some [])⟩,im 5 4,ig 6 5 false (.mv (.s 0)),⟨(some 7),(.call 25 [.s 6,(ci 3)]),(some (5,false)),(some [])⟩,iq 8 (.pick (.s 5) (.c (.bool true)) (.s 7)),im 9 8,ig 10 9 false (.mv (.s 0)),⟨(some 11),(.call 30 [.s 10,(.c (ofL [46]))]),(some (9,false)),(some [])⟩,iq 12 (.pick (.s 9) (.c (.bool true)) (.s 11)),im 13 12,ig 14 13 false (.mv (.s 0)),⟨(some 15),(.call 30 [.s 14,(.c (ofL [36]))]),(some (13,false)),(some [])⟩,iq 16 (.pick (.s 13) (.c (.bool true)) (.s 15)),im 17 16,ig 18 17 false (.mv (.s 0)),⟨(some 19),(.call 30 [.s 18,(.c (ofL [40]))]),(some (17,false)),(some [])⟩,iq 20 (.pick (.s 17) (.c (.bool true)) (.s 19)),im 21 20,ig 22 21 false (.mv (.s 0)),⟨(some 23),(.call 25 [.s 22,(ci 1)]),(some (21,false)),(some [])⟩,ig 24 21 false (.mv (.s 23)),ig 25 24 true (.mv (.s 0)),ig 26 24 true (.nilck (.s 25)),ig 27 24 true (.faddr 0 (.s 26)),ig 28 24 true (.load1 (.s 27)),ig 29 24 true (.mv (.s 0)),ig 30 24 true (.nilck (.s 29)),ig 31 24 true (.faddr 1 (.s 30)),ig 32 24 true (.load1 (.s 31)),ig 33 24 true (.iaddrS 4 (.s 28) (.s 32)),ig 34 24 true (.faddr 1 (.s 33)),ig 35 24 true (.load1 (.s 34)),ig 36 24 true (.eq (.one .s) false (.s 35) (.c (ofL [116,114,117,101]))),ig 37 24 true (.mv (.s 36)),ig 38 37 false (.mv (.s 0)),ig 39 37 false (.nilck (.s 38)),ig 40 37 false (.faddr 0 (.s 39)),ig 41 37 false (.load1 (.s 40)),ig 42 37 false (.mv (.s 0)),ig 43 37 false (.nilck (.s 42)),ig 44 37 false (.faddr 1 (.s 43)),ig 45 37 false (.load1 (.s 44)),ig 46 37 false (.iaddrS 4 (.s 41) (.s 45)),ig 47 37 false (.faddr 1 (.s 46)),ig 48 37 false (.load1 (.s 47)),ig 49 37 false (.eq (.one .s) false (.s 48) (.c (ofL [102,97,108,115,101]))),ig 50 24 true (.pick (.s 37) (.c (.bool true)) (.s 49)),ig 51 21 false (.pick (.s 24) (.s 50) (.c (.bool false))),iq 52 (.pick (.s 21) (.c (.bool true)) (.s 51)),im 2 52] [])
 .ret))}
theorem JrF :compFn Tryz.prog Tryz.f89 []=some Kc:=by kernel_rfl
def Kr :Eva.Fn:={ntmps:=51,res:=[.s 4],body:=
 (sr [iq 4 (.mv (.c (.bool false)))]
 (.seq
 (.drw [im 5 0,iq 6 (.nilck (.s 5)),ia 7 2 6,il 8 7,iq 9 (.eq (.one .i) false (.s 8) (ci 0)),im 10 9,ig 11 10 true (.mv (.s 0)),ig 12 10 true (.nilck (.s 11)),ig 13 10 true (.faddr 1 (.s 12)),ig 14 10 true (.load1 (.s 13)),ig 15 10 true (.mv (.s 0)),ig 16 10 true (.nilck (.s 15)),ig 17 10 true (.faddr 0 (.s 16)),ig 18 10 true (.load1 (.s 17)),ig 19 10 true (.lenL (.s 18)),ig 20 10 true (.bin .lss (.s 14) (.s 19)),iq 21 (.pick (.s 10) (.s 20) (.c (.bool false))),im 22 21,ig 23 22 true (.mv (.s 0)),ig 24 22 true (.nilck (.s 23)),ig 25 22 true (.faddr 0 (.s 24)),ig 26 22 true (.load1 (.s 25)),ig 27 22 true (.mv (.s 0)),ig 28 22 true (.nilck (.s 27)),ig 29 22 true (.faddr 1 (.s 28)),ig 30 22 true (.load1 (.s 29)),ig 31 22 true (.iaddrS 4 (.s 26) (.s 30)),ig 32 22 true (.faddr 0 (.s 31)),ig 33 22 true (.load1 (.s 32)),ig 34 22 true (.eq (.one .i) false (.s 33) (ci 4)),iq 35 (.pick (.s 22) (.s 34) (.c (.bool false))),im 36 35,ig 37 36 true (.mv (.s 0)),ig 38 36 true (.nilck (.s 37)),ig 39 36 true (.faddr 0 (.s 38)),ig 40 36 true (.load1 (.s 39)),ig 41 36 true (.mv (.s 0)),ig 42 36 true (.nilck (.s 41)),ig 43 36 true (.faddr 1 (.s 42)),ig 44 36 true (.load1 (.s 43)),ig 45 36 true (.iaddrS 4 (.s 40) (.s 44)),ig 46 36 true (.faddr 1 (.s 45)),ig 47 36 true (.load1 (.s 46)),ig 48 36 true (.mv (.s 1)),ig 49 36 true (.eq (.one .s) false (.s 47) (.s 48)),iq 50 (.pick (.s 36) (.s 49) (.c (.bool false))),im 4 50] [])
 .ret))}
theorem JrG :compFn Tryz.prog Tryz.f30 []=some Kr:=by kernel_rfl
def Ks :Eva.Fn:={ntmps:=13,res:=[],body:=
 (sr [im 4 0,iq 5 (.nilck (.s 4)),ia 6 2 5,il 7 6,iq 8 (.eq (.one .i) false (.s 7) (ci 0))]
 (.cond (.s 8)
 (.reg [im 9 0,im 10 1,iq 11 (.nilck (.s 9)),ia 12 2 11,iz (.store 1 (.s 12) (.s 10))])
 .skip))}
theorem JrH :compFn Tryz.prog Tryz.f58 []=some Ks:=by kernel_rfl
def Kt :Eva.Fn:={ntmps:=30,res:=[(.cn 4 4)],body:=
 (sr [iq 4 (.alloc [(.int .i64 0),(ofL []),(.int .i64 0),(.int .i64 0)])]
 (.seqj [0,4]
 (sr [im 5 0,im 6 1,iq 7 (.call 25 [.s 5, .s 6]),iq 8 (.not (.s 7))]
 (.cond (.s 8)
 (sr [im 9 0,iq 10 (.call 58 [.s 9,(ci 12)])]
 (sr [iq 11 (.build [(.int .i64 0),(ofL []),(.int .i64 0),(.int .i64 0)] []),iz (.store 4 (.s 4) (.s 11))]
 .ret))
 .skip))
 (sr [im 12 0,iq 13 (.nilck (.s 12)),ia 14 1 13,il 15 14,iq 16 (.bin .add (.s 15) (ci 1)),iq 17 (.nilck (.s 12)),ia 18 1 17,iz (.store 1 (.s 18) (.s 16))]
 (.seq
 (.drw [im 19 0,iq 20 (.nilck (.s 19)),ia 21 0 20,il 22 21,im 23 0,iq 24 (.nilck (.s 23)),ia 25 1 24,il 26 25,iq 27 (.bin .sub (.s 26) (ci 1)),iq 28 (.iaddrS 4 (.s 22) (.s 27)),iq 29 (.loadn 4 (.s 28)),iz (.store 4 (.s 4) (.s 29))] [])
 .ret))))}
theorem JrI :compFn Tryz.prog Tryz.f29 [[0,4]]=some Kt:=by kernel_rfl
def Kd :Eva.Fn:={ntmps:=132,res:=[.s 4],body:=
 (sr [iq 4 (.mv (.c .snil))]
 (sr [iq 5 (.mv (.c .snil))]
 (.seqj [5]
 (.block 0
 (.loop [0,1,5]
 (.seqj [0,5]
 (.seq
 (.drw [im 6 0,⟨(some 7),(.call 30 [.s 6,(.c (ofL [46]))]),none,(some [])⟩,im 8 7,ig 9 8 true (.mv (.s 0)),ig 10 8 true (.nilck (.s 9)),ig 11 8 true (.faddr 1 (.s 10)),ig 12 8 true (.load1 (.s 11)),ig 13 8 true (.bin .add (.s 12) (ci 1)),ig 14 8 true (.mv (.s 0)),ig 15 8 true (.nilck (.s 14)),ig 16 8 true (.faddr 0 (.s 15)),ig 17 8 true (.load1 (.s 16)),ig 18 8 true (.lenL (.s 17)),ig 19 8 true (.bin .lss (.s 13) (.s 18)),iq 20 (.pick (.s 8) (.s 19) (.c (.bool false))),im 21 20,ig 22 21 true (.mv (.s 0)),ig 23 21 true (.nilck (.s 22)),ig 24 21 true (.faddr 0 (.s 23)),ig 25 21 true (.load1 (.s 24)),ig 26 21 true (.mv (.s 0)),ig 27 21 true (.nilck (.s 26)),ig 28 21 true (.faddr 1 (.s 27)),ig 29 21 true (.load1 (.s 28)),ig 30 21 true (.bin .add (.s 29) (ci 1)),ig 31 21 true (.iaddrS 4 (.s 25) (.s 30)),ig 32 21 true (.faddr 0 (.s 31)),ig 33 21 true (.load1 (.s 32)),ig 34 21 true (.eq (.one .i) false (.s 33) (ci 1)),iq 35 (.pick (.s 21) (.s 34) (.c (.bool false))),im 36 35,ig 37 36 true (.mv (.s 0)),ig 38 36 true (.nilck (.s 37)),ig 39 36 true (.faddr 0 (.s 38)),ig 40 36 true (.load1 (.s 39)),ig 41 36 true (.mv (.s 0)),ig 42 36 true (.nilck (.s 41)),ig 43 36 true (.faddr 1 (.s 42)),ig 44 36 true (.load1 (.s 43)),ig 45 36 true (.bin .add (.s 44) (ci 1)),ig 46 36 true (.iaddrS 4 (.s 40) (.s 45)),ig 47 36 true (.faddr 3 (.s 46)),ig 48 36 true (.load1 (.s 47)),ig 49 36 true (.mv (.s 0)),ig 50 36 true (.nilck (.s 49)),ig 51 36 true (.faddr 0 (.s 50)),ig 52 36 true (.load1 (.s 51)),ig 53 36 true (.mv (.s 0)),ig 54 36 true (.nilck (.s 53)),ig 55 36 true (.faddr 1 (.s 54)),ig 56 36 true (.load1 (.s 55)),ig 57 36 true (.iaddrS 4 (.s 52) (.s 56)),ig 58 36 true (.faddr 3 (.s 57)),ig 59 36 true (.load1 (.s 58)),ig 60 36 true (.bin .add (.s 59) (ci 1)),ig 61 36 true (.eq (.one .i) false (.s 48) (.s 60)),iq 62 (.pick (.s 36) (.s 61) (.c (.bool false))),im 63 62,ig 64 63 true (.mv (.s 1)),ig 65 63 true (.bin .lss (.s 64) (ci 0)),ig 66 63 true (.mv (.s 65)),ig 67 66 false (.mv (.s 0)),ig 68 66 false (.nilck (.s 67)),ig 69 66 false (.faddr 0 (.s 68)),ig 70 66 false (.load1 (.s 69)),ig 71 66 false (.mv (.s 0)),ig 72 66 false (.nilck (.s 71)),ig 73 66 false (.faddr 1 (.s 72)),ig 74 66 false (.load1 (.s 73)),ig 75 66 false (.iaddrS 4 (.s 70) (.s 74)),ig 76 66 false (.faddr 3 (.s 75)),ig 77 66 false (.load1 (.s 76)),ig 78 66 false (.mv (.s 1)),ig 79 66 false (.eq (.one .i) false (.s 77) (.s 78)),ig 80 63 true (.pick (.s 66) (.c (.bool true)) (.s 79)),iq 81 (.pick (.s 63) (.s 80) (.c (.bool false)))] [])
 (.cond (.s 81)
 .skip
 (.exit 0)))
 (.block 1
 (.seq
 (.drw [im 82 5,im 83 0,iq 84 (.nilck (.s 83)),ia 85 0 84,il 86 85,im 87 0,iq 88 (.nilck (.s 87)),ia 89 1 88,il 90 89,iq 91 (.bin .add (.s 90) (ci 1)),iq 92 (.iaddrS 4 (.s 86) (.s 91)),ia 93 1 92,il 94 93,iq 95 (.bsl 1 1 [(ofL [])] [(0,1,(.s 94))]),iq 96 (.app 1 (.s 82) (.s 95)),im 5 96] [])
 (.seq
 (.drw [im 97 0,iq 98 (.nilck (.s 97)),ia 99 0 98,il 100 99,im 101 0,iq 102 (.nilck (.s 101)),ia 103 1 102,il 104 103,iq 105 (.bin .add (.s 104) (ci 1)),iq 106 (.iaddrS 4 (.s 100) (.s 105)),ia 107 3 106,il 108 107,im 109 0,iq 110 (.nilck (.s 109)),ia 111 0 110,il 112 111,im 113 0,iq 114 (.nilck (.s 113)),ia 115 1 114,il 116 115,iq 117 (.bin .add (.s 116) (ci 1)),iq 118 (.iaddrS 4 (.s 112) (.s 117)),ia 119 1 118,il 120 119,iq 121 (.lenS (.s 120)),iq 122 (.bin .add (.s 108) (.s 121)),im 1 122] [])
 (.reg [im 123 0,im 124 0,iq 125 (.nilck (.s 124)),ia 126 1 125,il 127 126,iq 128 (.bin .add (.s 127) (ci 2)),iq 129 (.nilck (.s 123)),ia 130 1 129,iz (.store 1 (.s 130) (.s 128))])))))))
 (sr [im 131 5,im 4 131]
 .ret))))}
theorem Jpy :compFn Tryz.prog Tryz.f116 [[5],[0,1,5],[0,5]]=some Kd:=by kernel_rfl
def Kz :Eva.Fn:={ntmps:=16,res:=[],body:=
 (sr [im 4 0,im 5 1,iq 6 (.call 30 [.s 4, .s 5])]
 (.cond (.s 6)
 (.reg [im 7 0,iq 8 (.nilck (.s 7)),ia 9 1 8,il 10 9,iq 11 (.bin .add (.s 10) (ci 1)),iq 12 (.nilck (.s 7)),ia 13 1 12,iz (.store 1 (.s 13) (.s 11))])
 (.reg [im 14 0,iq 15 (.call 58 [.s 14,(ci 12)])])))}
theorem Jpz :compFn Tryz.prog Tryz.f117 []=some Kz:=by kernel_rfl
def KA :Eva.Fn:={ntmps:=19,res:=[.s 2],body:=
 (sr [ik 2 0]
 (.seqj [0]
 (.seq
 (.drw [im 3 0,iq 4 (.nilck (.s 3)),ia 5 1 4,il 6 5,im 7 0,iq 8 (.nilck (.s 7)),ia 9 0 8,il 10 9,iq 11 (.lenL (.s 10)),iq 12 (.bin .lss (.s 6) (.s 11))] [])
 (.cond (.s 12)
 (.reg [im 13 0,iq 14 (.call 58 [.s 13,(ci 12)])])
 .skip))
 (sr [im 15 0,iq 16 (.nilck (.s 15)),ia 17 2 16,il 18 17,im 2 18]
 .ret)))}
theorem JrJ :compFn Tryz.prog Tryz.f31 [[0]]=some KA:=by kernel_rfl
def JB :Eva.Fn:={ntmps:=72,res:=[.s 6],body:=
 (sr [iq 5 (.box (.s 2)),ik 6 0]
 (.seqj [0,5]
 (sr [im 7 1]
 (.block 0
 (sr [iq 9 (.eq (.one .s) false (.s 7) (.c (ofL [109,97,116,99,104]))),im 8 9]
 (.cond (.s 8)
 (sr [im 10 0,im 11 1,iq 12 (.loadn 9 (.s 5)),iq 13 (.call 59 [.s 10, .s 11, .s 12,(ci 3),(.c (ofL []))]),im 6 13]
 .ret)
 (.seqj [0,1,5,7,14]
 (sr [iq 15 (.eq (.one .s) false (.s 7) (.c (ofL [105,102]))),im 14 15]
 (.cond (.s 14)
 .skip
 (sr [iq 16 (.eq (.one .s) false (.s 7) (.c (ofL [119,105,116,104]))),im 14 16]
 (.cond (.s 14)
 .skip
 (.reg [iq 17 (.eq (.one .s) false (.s 7) (.c (ofL [114,97,110,103,101]))),im 14 17])))))
 (.cond (.s 14)
 (sr [im 18 0,im 19 1,iq 20 (.loadn 9 (.s 5)),iq 21 (.call 59 [.s 18, .s 19, .s 20,(ci 0),(.c (ofL []))]),im 6 21]
 .ret)
 (.seqj [0,1,5,7,22]
 (sr [iq 23 (.eq (.one .s) false (.s 7) (.c (ofL [101,108,115,101]))),im 22 23]
 (.cond (.s 22)
 .skip
 (.reg [iq 24 (.eq (.one .s) false (.s 7) (.c (ofL [99,97,115,101]))),im 22 24])))
 (.cond (.s 22)
 (sr [im 25 0,im 26 1,ia 27 3 5,il 28 27,iq 29 (.call 60 [.s 25, .s 26, .s 28]),im 6 29]
 .ret)
 (sr [iq 31 (.eq (.one .s) false (.s 7) (.c (ofL [101,110,100]))),im 30 31]
 (.cond (.s 30)
 (sr [im 32 0,iq 33 (.call 61 [.s 32]),im 6 33]
 .ret)
 (sr [iq 35 (.eq (.one .s) false (.s 7) (.c (ofL [100,101,102,105,110,101]))),im 34 35]
 (.cond (.s 34)
 (sr [im 36 0,ia 37 3 5,il 38 37,iq 39 (.call 62 [.s 36, .s 38]),im 6 39]
 .ret)
 (sr [iq 41 (.eq (.one .s) false (.s 7) (.c (ofL [116,101,109,112,108,97,116,101]))),im 40 41]
 (.cond (.s 40)
 (.seqj [0,5]
 (.seq
 (.drw [im 42 0,iq 43 (.nilck (.s 42)),ia 44 0 43,il 45 44,iq 46 (.lenL (.s 45)),iq 47 (.bin .gtr (.s 46) (ci 0)),im 48 47,ig 49 48 true (.mv (.s 0)),ig 50 48 true (.nilck (.s 49)),ig 51 48 true (.faddr 0 (.s 50)),ig 52 48 true (.load1 (.s 51)),ig 53 48 true (.mv (.s 0)),ig 54 48 true (.nilck (.s 53)),ig 55 48 true (.faddr 0 (.s 54)),ig 56 48 true (.load1 (.s 55)),ig 57 48 true (.lenL (.s 56)),ig 58 48 true (.bin .sub (.s 57) (ci 1)),ig 59 48 true (.iaddrS 12 (.s 52) (.s 58)),ig 60 48 true (.faddr 10 (.s 59)),ig 61 48 true (.load1 (.s 60)),ig 62 48 true (.eq (.one .i) false (.s 61) (ci 3)),iq 63 (.pick (.s 48) (.s 62) (.c (.bool false)))] [])
 (.cond (.s 63)
 (sr [ik 6 12]
 .ret)
 .skip))
 (sr [ia 64 3 5,il 65 64,iq 66 (.call 47 [.s 65]),iq 67 (.not (.s 66))]
 (.cond (.s 67)
 (sr [ik 6 15]
 .ret)
 .skip)))
 .skip))))))))))))))
 (.seqj []
 (sr [im 68 0,iq 69 (.loadn 9 (.s 5)),iq 70 (.call 33 [.s 68, .s 69]),iq 71 (.not (.s 70))]
 (.cond (.s 71)
 (sr [ik 6 12]
 .ret)
 .skip))
 (sr [ik 6 0]
 .ret))))}
theorem JrK :compFn Tryz.prog Tryz.f32 [[0,5],[0,1,5,7,14],[0,1,5,7,22],[0,5],[]]=some JB:=by kernel_rfl
def JS :Eva.Fn:={ntmps:=57,res:=[.s 10],body:=
 (sr [iq 7 (.box (.s 2)),ik 10 0]
 (.seqj [0,1,3,4,7]
 (.seq
 (.drw [im 11 1,iq 12 (.eq (.one .s) true (.s 11) (.c (ofL [100,101,102,105,110,101]))),im 13 12,ig 14 13 true (.mv (.s 0)),ig 15 13 true (.nilck (.s 14)),ig 16 13 true (.faddr 0 (.s 15)),ig 17 13 true (.load1 (.s 16)),ig 18 13 true (.lenL (.s 17)),ig 19 13 true (.bin .gtr (.s 18) (ci 0)),iq 20 (.pick (.s 13) (.s 19) (.c (.bool false))),im 21 20,ig 22 21 true (.mv (.s 0)),ig 23 21 true (.nilck (.s 22)),ig 24 21 true (.faddr 0 (.s 23)),ig 25 21 true (.load1 (.s 24)),ig 26 21 true (.mv (.s 0)),ig 27 21 true (.nilck (.s 26)),ig 28 21 true (.faddr 0 (.s 27)),ig 29 21 true (.load1 (.s 28)),ig 30 21 true (.lenL (.s 29)),ig 31 21 true (.bin .sub (.s 30) (ci 1)),ig 32 21 true (.iaddrS 12 (.s 25) (.s 31)),ig 33 21 true (.faddr 10 (.s 32)),ig 34 21 true (.load1 (.s 33)),ig 35 21 true (.eq (.one .i) false (.s 34) (ci 3)),iq 36 (.pick (.s 21) (.s 35) (.c (.bool false)))] [])
 (.cond (.s 36)
 (sr [ik 10 12]
 .ret)
 .skip))
 (.seqj [0,1,3,4,7]
 (sr [im 37 0,iq 38 (.nilck (.s 37)),ia 39 0 38,il 40 39,iq 41 (.lenL (.s 40)),iq 42 (.bin .geq (.s 41) (ci 12))]
 (.cond (.s 42)
 (sr [ik 10 13]
 .ret)
 .skip))
 (.seq
 (.drw [im 43 0,im 44 0,iq 45 (.nilck (.s 44)),ia 46 0 45,il 47 46,im 48 1,iq 49 (.loadn 9 (.s 7)),im 50 3,im 51 4,iq 52 (.build [(ofL []),(.int .i64 0),(.int .i64 0),(ofL []),(ofL []), .snil, .snil, .snil,(.bool false), .snil,(.int .i64 0),(ofL [])] [(0,1,(.s 48)),(1,9,(.s 49)),(10,1,(.s 50)),(11,1,(.s 51))]),iq 53 (.bsl 12 1 [(ofL []),(.int .i64 0),(.int .i64 0),(ofL []),(ofL []), .snil, .snil, .snil,(.bool false), .snil,(.int .i64 0),(ofL [])] [(0,12,(.s 52))]),iq 54 (.app 12 (.s 47) (.s 53)),iq 55 (.nilck (.s 43)),ia 56 0 55,iz (.store 1 (.s 56) (.s 54))] [])
 (sr [ik 10 0]
 .ret)))))}
theorem JrL :compFn Tryz.prog Tryz.f59 [[0,1,3,4,7],[0,1,3,4,7]]=some JS:=by kernel_rfl
def JT :Eva.Fn:={ntmps:=73,res:=[.s 6],body:=
 (sr [ik 6 0]
 (.seqj [0,1,2]
 (sr [im 8 0,iq 9 (.nilck (.s 8)),ia 10 0 9,il 11 10,iq 12 (.lenL (.s 11)),iq 13 (.eq (.one .i) false (.s 12) (ci 0))]
 (.cond (.s 13)
 (sr [ik 6 12]
 .ret)
 .skip))
 (.seq
 (.drw [im 14 0,iq 15 (.nilck (.s 14)),ia 16 0 15,il 17 16,im 18 0,iq 19 (.nilck (.s 18)),ia 20 0 19,il 21 20,iq 22 (.lenL (.s 21)),iq 23 (.bin .sub (.s 22) (ci 1)),iq 24 (.iaddrS 12 (.s 17) (.s 23)),im 7 24] [])
 (.seqj [1,2,7]
 (sr [im 25 7,iq 26 (.nilck (.s 25)),ia 27 0 26,il 28 27,iq 29 (.eq (.one .s) false (.s 28) (.c (ofL [100,101,102,105,110,101]))),im 30 29,ig 31 30 false (.mv (.s 7)),ig 32 30 false (.nilck (.s 31)),ig 33 30 false (.faddr 1 (.s 32)),ig 34 30 false (.faddr 7 (.s 33)),ig 35 30 false (.load1 (.s 34)),iq 36 (.pick (.s 30) (.c (.bool true)) (.s 35)),im 37 36,ig 38 37 false (.mv (.s 1)),ig 39 37 false (.eq (.one .s) false (.s 38) (.c (ofL [99,97,115,101]))),ig 40 37 false (.mv (.s 39)),ig 41 40 true (.mv (.s 7)),ig 42 40 true (.nilck (.s 41)),ig 43 40 true (.faddr 0 (.s 42)),ig 44 40 true (.load1 (.s 43)),ig 45 40 true (.eq (.one .s) true (.s 44) (.c (ofL [109,97,116,99,104]))),ig 46 37 false (.pick (.s 40) (.s 45) (.c (.bool false))),iq 47 (.pick (.s 37) (.c (.bool true)) (.s 46))]
 (.cond (.s 47)
 (sr [ik 6 12]
 .ret)
 .skip))
 (.seqj [2,7]
 (sr [im 48 1,iq 49 (.eq (.one .s) false (.s 48) (.c (ofL [101,108,115,101])))]
 (.cond (.s 49)
 (sr [im 50 7,iq 51 (.nilck (.s 50)),ia 52 1 51,ia 53 7 52,iz (.store 1 (.s 53) (.c (.bool true)))]
 (sr [im 54 7,iq 55 (.nilck (.s 54)),ia 56 10 55,iz (.store 1 (.s 56) (ci 1))]
 (sr [ik 6 0]
 .ret)))
 .skip))
 (sr [im 57 7,im 58 7,iq 59 (.nilck (.s 58)),ia 60 1 59,ia 61 8 60,il 62 61,im 63 2,iq 64 (.build [(ofL []), .snil] [(0,1,(.s 63))]),iq 65 (.bsl 2 1 [(ofL []), .snil] [(0,2,(.s 64))]),iq 66 (.app 2 (.s 62) (.s 65)),iq 67 (.nilck (.s 57)),ia 68 1 67,ia 69 8 68,iz (.store 1 (.s 69) (.s 66))]
 (sr [im 70 7,iq 71 (.nilck (.s 70)),ia 72 10 71,iz (.store 1 (.s 72) (ci 2))]
 (sr [ik 6 0]
 .ret))))))))}
theorem JrM :compFn Tryz.prog Tryz.f60 [[0,1,2],[1,2,7],[2,7]]=some JT:=by kernel_rfl
def JU :Eva.Fn:={ntmps:=58,res:=[.s 2],body:=
 (sr [ik 2 0]
 (.seqj [0]
 (sr [im 4 0,iq 5 (.nilck (.s 4)),ia 6 0 5,il 7 6,iq 8 (.lenL (.s 7)),iq 9 (.eq (.one .i) false (.s 8) (ci 0))]
 (.cond (.s 9)
 (sr [ik 2 12]
 .ret)
 .skip))
 (.seq
 (.drw [im 10 0,iq 11 (.nilck (.s 10)),ia 12 0 11,il 13 12,im 14 0,iq 15 (.nilck (.s 14)),ia 16 0 15,il 17 16,iq 18 (.lenL (.s 17)),iq 19 (.bin .sub (.s 18) (ci 1)),iq 20 (.iaddrS 12 (.s 13) (.s 19)),iq 21 (.loadn 12 (.s 20)),iq 3 (.alloc [(ofL []),(.int .i64 0),(.int .i64 0),(ofL []),(ofL []), .snil, .snil, .snil,(.bool false), .snil,(.int .i64 0),(ofL [])]),iz (.store 12 (.s 3) (.s 21))] [])
 (.seq
 (.drw [im 22 0,im 23 0,iq 24 (.nilck (.s 23)),ia 25 0 24,il 26 25,im 27 0,iq 28 (.nilck (.s 27)),ia 29 0 28,il 30 29,iq 31 (.lenL (.s 30)),iq 32 (.bin .sub (.s 31) (ci 1)),iq 33 (.cutL 12 (.s 26) none (some (.s 32)) none),iq 34 (.nilck (.s 22)),ia 35 0 34,iz (.store 1 (.s 35) (.s 33))] [])
 (.seqj []
 (sr [ia 36 0 3,il 37 36,iq 38 (.eq (.one .s) false (.s 37) (.c (ofL [100,101,102,105,110,101])))]
 (.cond (.s 38)
 (.drw [im 39 0,im 40 0,iq 41 (.nilck (.s 40)),ia 42 2 41,il 43 42,ia 44 11 3,il 45 44,ia 46 1 3,ia 47 5 46,il 48 47,iq 49 (.build [(ofL []), .snil] [(0,1,(.s 45)),(1,1,(.s 48))]),iq 50 (.bsl 2 1 [(ofL []), .snil] [(0,2,(.s 49))]),iq 51 (.app 2 (.s 43) (.s 50)),iq 52 (.nilck (.s 39)),ia 53 2 52,iz (.store 1 (.s 53) (.s 51))] [])
 (.reg [im 54 0,ia 55 1 3,iq 56 (.loadn 9 (.s 55)),iq 57 (.call 33 [.s 54, .s 56])])))
 (sr [ik 2 0]
 .ret))))))}
theorem JrN :compFn Tryz.prog Tryz.f61 [[0],[]]=some JU:=by kernel_rfl
def JL :Eva.Fn:={ntmps:=95,res:=[.s 4],body:=
 (sr [iq 3 (.box (.s 1)),iq 4 (.mv (.c (.bool false)))]
 (.seqj [0,3]
 (sr [im 7 0,iq 8 (.nilck (.s 7)),ia 9 0 8,il 10 9,iq 11 (.lenL (.s 10)),iq 12 (.eq (.one .i) false (.s 11) (ci 0))]
 (.cond (.s 12)
 (.seq
 (.drw [im 13 0,iq 14 (.nilck (.s 13)),ia 15 1 14,il 16 15,iq 17 (.loadn 9 (.s 3)),iq 18 (.lenL (.s 16)),iq 19 (.bsl 9 1 [(.int .i64 0),(.int .i64 0),(ofL []),(ofL []), .snil, .snil, .snil,(.bool false), .snil] [(0,9,(.c (.agg [(.int .i64 0),(.int .i64 0),(ofL []),(ofL []), .snil, .snil, .snil,(.bool false), .snil])))]),iq 20 (.app 9 (.s 16) (.s 19)),iq 21 (.iaddrS 9 (.s 20) (.s 18)),iz (.store 9 (.s 21) (.s 17)),iq 22 (.nilck (.s 13)),ia 23 1 22,iz (.store 1 (.s 23) (.s 20))] [([21],[23]),([23],[21])])
 (sr [iq 4 (.mv (.c (.bool true)))]
 .ret))
 .skip))
 (.seq
 (.drw [im 24 0,iq 25 (.nilck (.s 24)),ia 26 0 25,il 27 26,im 28 0,iq 29 (.nilck (.s 28)),ia 30 0 29,il 31 30,iq 32 (.lenL (.s 31)),iq 33 (.bin .sub (.s 32) (ci 1)),iq 34 (.iaddrS 12 (.s 27) (.s 33)),im 5 34] [])
 (.seqj []
 (sr [im 35 5,iq 36 (.nilck (.s 35)),ia 37 10 36,il 38 37]
 (.block 0
 (sr [iq 40 (.eq (.one .i) false (.s 38) (ci 0)),im 39 40]
 (.cond (.s 39)
 (.drw [im 41 5,iq 42 (.nilck (.s 41)),ia 43 1 42,ia 44 5 43,il 45 44,iq 46 (.loadn 9 (.s 3)),iq 47 (.lenL (.s 45)),iq 48 (.bsl 9 1 [(.int .i64 0),(.int .i64 0),(ofL []),(ofL []), .snil, .snil, .snil,(.bool false), .snil] [(0,9,(.c (.agg [(.int .i64 0),(.int .i64 0),(ofL []),(ofL []), .snil, .snil, .snil,(.bool false), .snil])))]),iq 49 (.app 9 (.s 45) (.s 48)),iq 50 (.iaddrS 9 (.s 49) (.s 47)),iz (.store 9 (.s 50) (.s 46)),iq 51 (.nilck (.s 41)),ia 52 1 51,ia 53 5 52,iz (.store 1 (.s 53) (.s 49))] [([50],[53]),([53],[50])])
 (sr [iq 55 (.eq (.one .i) false (.s 38) (ci 1)),im 54 55]
 (.cond (.s 54)
 (.drw [im 56 5,iq 57 (.nilck (.s 56)),ia 58 1 57,ia 59 6 58,il 60 59,iq 61 (.loadn 9 (.s 3)),iq 62 (.lenL (.s 60)),iq 63 (.bsl 9 1 [(.int .i64 0),(.int .i64 0),(ofL []),(ofL []), .snil, .snil, .snil,(.bool false), .snil] [(0,9,(.c (.agg [(.int .i64 0),(.int .i64 0),(ofL []),(ofL []), .snil, .snil, .snil,(.bool false), .snil])))]),iq 64 (.app 9 (.s 60) (.s 63)),iq 65 (.iaddrS 9 (.s 64) (.s 62)),iz (.store 9 (.s 65) (.s 61)),iq 66 (.nilck (.s 56)),ia 67 1 66,ia 68 6 67,iz (.store 1 (.s 68) (.s 64))] [([65],[68]),([68],[65])])
 (sr [iq 70 (.eq (.one .i) false (.s 38) (ci 2)),im 69 70]
 (.cond (.s 69)
 (.seq
 (.drw [im 71 5,iq 72 (.nilck (.s 71)),ia 73 1 72,ia 74 8 73,il 75 74,im 76 5,iq 77 (.nilck (.s 76)),ia 78 1 77,ia 79 8 78,il 80 79,iq 81 (.lenL (.s 80)),iq 82 (.bin .sub (.s 81) (ci 1)),iq 83 (.iaddrS 2 (.s 75) (.s 82)),im 6 83] [])
 (.drw [im 84 6,iq 85 (.nilck (.s 84)),ia 86 1 85,il 87 86,iq 88 (.loadn 9 (.s 3)),iq 89 (.lenL (.s 87)),iq 90 (.bsl 9 1 [(.int .i64 0),(.int .i64 0),(ofL []),(ofL []), .snil, .snil, .snil,(.bool false), .snil] [(0,9,(.c (.agg [(.int .i64 0),(.int .i64 0),(ofL []),(ofL []), .snil, .snil, .snil,(.bool false), .snil])))]),iq 91 (.app 9 (.s 87) (.s 90)),iq 92 (.iaddrS 9 (.s 91) (.s 89)),iz (.store 9 (.s 92) (.s 88)),iq 93 (.nilck (.s 84)),ia 94 1 93,iz (.store 1 (.s 94) (.s 91))] [([92],[94]),([94],[92])]))
 (sr [iq 4 (.mv (.c (.bool false)))]
 .ret)))))))))
 (sr [iq 4 (.mv (.c (.bool true)))]
 .ret)))))}
theorem JrO :compFn Tryz.prog Tryz.f33 [[0,3],[]]=some JL:=by kernel_rfl
def Qq :Eva.Fn:={ntmps:=32,res:=[.s 2],body:=
 (sr [iq 2 (.mv (.c (.bool false)))]
 (.seqj []
 (sr [ik 3 0]
 (.block 0
 (.loop [0,3]
 (.seqj [0,3]
 (sr [im 4 3,im 5 0,iq 6 (.lenS (.s 5)),iq 7 (.bin .lss (.s 4) (.s 6))]
 (.cond (.s 7)
 .skip
 (.exit 0)))
 (.seqj [0,3]
 (.block 1
 (sr [im 10 0,im 11 3,iq 12 (.idxS (.s 10) (.s 11)),iq 13 (.eq (.one .i) true (.s 12) (.c (.int .u8 32))),im 14 13,ig 15 14 true (.mv (.s 0)),ig 16 14 true (.mv (.s 3)),ig 17 14 true (.idxS (.s 15) (.s 16)),ig 18 14 true (.eq (.one .i) true (.s 17) (.c (.int .u8 9))),iq 19 (.pick (.s 14) (.s 18) (.c (.bool false))),im 20 19,ig 21 20 true (.mv (.s 0)),ig 22 20 true (.mv (.s 3)),ig 23 20 true (.idxS (.s 21) (.s 22)),ig 24 20 true (.eq (.one .i) true (.s 23) (.c (.int .u8 10))),iq 25 (.pick (.s 20) (.s 24) (.c (.bool false))),im 26 25,ig 27 26 true (.mv (.s 0)),ig 28 26 true (.mv (.s 3)),ig 29 26 true (.idxS (.s 27) (.s 28)),ig 30 26 true (.eq (.one .i) true (.s 29) (.c (.int .u8 13))),iq 31 (.pick (.s 26) (.s 30) (.c (.bool false)))]
 (.cond (.s 31)
 (sr [iq 2 (.mv (.c (.bool false)))]
 .ret)
 .skip)))
 (.reg [im 8 3,iq 9 (.bin .add (.s 8) (ci 1)),im 3 9]))))))
 (sr [iq 2 (.mv (.c (.bool true)))]
 .ret)))}
theorem JrP :compFn Tryz.prog Tryz.f34 [[],[0,3],[0,3],[0,3]]=some Qq:=by kernel_rfl
def KZ :Eva.Fn:={ntmps:=7,res:=[.s 2],body:=
 (sr [ik 2 0]
 (sr [im 3 0,iq 4 (.nilck (.s 3)),ia 5 3 4,il 6 5,im 2 6]
 .ret))}
theorem JrQ :compFn Tryz.prog Tryz.f11 []=some KZ:=by kernel_rfl
def Yo :Eva.Fn:={ntmps:=33,res:=[.s 8, .s 9, .s 10],body:=
 (sr [iq 8 (.mv (.c .snil)),ik 9 0,ik 10 0]
 (sr [im 13 0,im 14 1,iq 15 (.build [.pnil, .snil, .snil,(.int .i64 0)] [(0,1,(.s 13)),(1,1,(.s 14)),(3,1,(.c (.int .i64 (-1))))]),iq 16 (.box (.s 15)),im 11 16]
 (.seqj [11]
 (sr [im 17 11,im 18 2,iq 19 (.build [(.int .i64 0), .snil, .snil] [(0,1,(.s 18))]),im 20 3,iq 21 (.call 17 [.s 17, .s 19, .s 20]),im 12 21]
 (sr [im 22 12,iq 23 (.eq (.one .i) true (.s 22) (ci 0))]
 (.cond (.s 23)
 (.seq
 (.drw [im 24 11,iq 25 (.nilck (.s 24)),ia 26 3 25,il 27 26,im 28 12,iq 8 (.mv (.c .snil)),im 9 27,im 10 28] [])
 .ret)
 .skip)))
 (sr [im 29 11,iq 30 (.nilck (.s 29)),ia 31 2 30,il 32 31,im 8 32,ik 9 0,ik 10 0]
 .ret))))}
theorem JrR :compFn Tryz.prog Tryz.f10 [[11]]=some Yo:=by kernel_rfl
def K0 :Eva.Fn:={ntmps:=83,res:=[.s 6],body:=
 (sr [iq 4 (.box (.s 1)),ik 6 0]
 (.seqj []
 (sr [im 12 2,iq 13 (.lenL (.s 12)),ik 14 0]
 (.block 0
 (.loop [0,4,12,13,14]
 (sr [iq 15 (.bin .lss (.s 14) (.s 13))]
 (.seqj [0,4,12,13,14]
 (.cond (.s 15)
 .skip
 (.exit 0))
 (.seqj [0,4,12,13,14]
 (.block 1
 (sr [iq 16 (.iaddrS 9 (.s 12) (.s 14)),iq 17 (.loadn 9 (.s 16)),iq 8 (.alloc [(.int .i64 0),(.int .i64 0),(ofL []),(ofL []), .snil, .snil, .snil,(.bool false), .snil]),iz (.store 9 (.s 8) (.s 17))]
 (sr [ik 9 0,ik 10 0]
 (.seqj [0,4,8,9,10,12,13,14]
 (sr [ia 18 0 8,il 19 18,iq 20 (.eq (.one .i) true (.s 19) (ci 1)),im 21 20,ig 22 21 true (.faddr 0 (.s 8)),ig 23 21 true (.load1 (.s 22)),ig 24 21 true (.eq (.one .i) true (.s 23) (ci 9)),ig 25 21 true (.mv (.s 24)),ig 26 25 false (.faddr 4 (.s 8)),ig 27 25 false (.load1 (.s 26)),ig 28 25 false (.lenL (.s 27)),ig 29 25 false (.bin .gtr (.s 28) (ci 0)),ig 30 21 true (.pick (.s 25) (.c (.bool true)) (.s 29)),iq 31 (.pick (.s 21) (.s 30) (.c (.bool false)))]
 (.cond (.s 31)
 (.drw [im 33 0,iq 34 (.nilck (.s 33)),ia 35 0 34,il 36 35,iq 37 (.loadn 3 (.s 4)),ia 38 4 8,il 39 38,⟨(some 40),(.call 35 [.s 36, .s 37, .s 39]),none,(some [])⟩,im 32 40,ie 41 0 32,ie 42 1 32,im 9 41,im 10 42] [])
 .skip))
 (sr [im 43 0,iq 44 (.nilck (.s 43)),ia 45 3 44,il 46 45,im 11 46]
 (sr [im 47 0,iq 48 (.nilck (.s 47)),ia 49 3 48,iz (.store 1 (.s 49) (.c (.int .i64 (-1))))]
 (.seqj [0,4,8,9,10,11,12,13,14]
 (sr [im 50 10,iq 51 (.eq (.one .i) false (.s 50) (ci 0))]
 (.cond (.s 51)
 (.reg [im 52 0,iq 53 (.loadn 3 (.s 4)),iq 54 (.loadn 9 (.s 8)),im 55 9,iq 56 (.call 36 [.s 52, .s 53, .s 54, .s 55]),im 10 56])
 .skip))
 (.seqj [0,4,8,9,11,12,13,14]
 (sr [im 57 10,iq 58 (.eq (.one .i) true (.s 57) (ci 0))]
 (.cond (.s 58)
 (.seqj [10]
 (sr [im 59 0,iq 60 (.nilck (.s 59)),ia 61 3 60,il 62 61,iq 63 (.bin .lss (.s 62) (ci 0))]
 (.cond (.s 63)
 (.reg [im 64 0,ia 65 1 8,il 66 65,iq 67 (.nilck (.s 64)),ia 68 3 67,iz (.store 1 (.s 68) (.s 66))])
 .skip))
 (sr [im 69 10,im 6 69]
 .ret))
 .skip))
 (sr [im 70 0,im 71 11,iq 72 (.nilck (.s 70)),ia 73 3 72,iz (.store 1 (.s 73) (.s 71))]
 (sr [ia 74 0 8,il 75 74,iq 76 (.eq (.one .i) false (.s 75) (ci 3))]
 (.cond (.s 76)
 (.reg [iq 77 (.loadn 3 (.s 4)),ia 78 3 8,il 79 78,im 80 9,iq 81 (.call 37 [.s 77, .s 79, .s 80]),iz (.store 3 (.s 4) (.s 81))])
 .skip)))))))))))
 (.reg [iq 82 (.bin .add (.s 14) (ci 1)),im 14 82])))))))
 (sr [ik 6 0]
 .ret)))}
theorem JrS :compFn Tryz.prog Tryz.f17 [[],[0,4,12,13,14],[0,4,12,13,14],[0,4,12,13,14],[0,4,8,9,10,12,13,14],[0,4,8,9,10,11,12,13,14],[0,4,8,9,11,12,13,14],[10]]=some K0:=by kernel_rfl
def Yz :Eva.Fn:={ntmps:=68,res:=[.s 6, .s 7],body:=
 (sr [iq 4 (.box (.s 1)),ik 6 0,ik 7 0]
 (sr [iq 8 (.mv (.c .snil))]
 (.seqj [8]
 (sr [im 13 2,iq 14 (.lenL (.s 13)),ik 15 0]
 (.block 0
 (.loop [0,4,8,13,14,15]
 (sr [iq 16 (.bin .lss (.s 15) (.s 14))]
 (.seqj [0,4,8,13,14,15]
 (.cond (.s 16)
 .skip
 (.exit 0))
 (.seqj [0,4,8,13,14,15]
 (.block 1
 (sr [iq 17 (.iaddrS 1 (.s 13) (.s 15)),iq 18 (.loadn 1 (.s 17)),iq 10 (.alloc [.snil]),iz (.store 1 (.s 10) (.s 18))]
 (sr [ik 11 0]
 (sr [ik 12 12]
 (.seqj [0,4,11,12,13,14,15]
 (.block 2
 (sr [ia 37 0 10,il 38 37,iq 39 (.lenL (.s 38)),iq 40 (.eq (.one .i) false (.s 39) (ci 0)),im 36 40]
 (.cond (.s 36)
 .skip
 (sr [ia 42 0 10,il 43 42,iq 44 (.iaddrS 7 (.s 43) (ci 0)),ia 45 0 44,il 46 45,iq 47 (.eq (.one .i) false (.s 46) (ci 6)),im 41 47]
 (.cond (.s 41)
 (.reg [iq 49 (.loadn 3 (.s 4)),im 50 0,iq 51 (.loadn 1 (.s 10)),im 52 8,iq 53 (.call 63 [.s 49, .s 50, .s 51, .s 52]),im 48 53,ie 54 0 48,ie 55 1 48,im 11 54,im 12 55])
 (.seq
 (.drw [iq 20 (.loadn 3 (.s 4)),im 21 0,ia 22 0 10,il 23 22,iq 24 (.iaddrS 7 (.s 23) (ci 0)),iq 25 (.loadn 7 (.s 24)),⟨(some 26),(.call 64 [.s 20, .s 21, .s 25]),none,(some [])⟩,im 19 26,ie 27 0 19,ie 28 1 19,im 11 27,im 12 28] [])
 (sr [im 29 12,iq 30 (.eq (.one .i) false (.s 29) (ci 0)),im 31 30,ig 32 31 true (.mv (.s 8)),ig 33 31 true (.lenL (.s 32)),ig 34 31 true (.bin .gtr (.s 33) (ci 0)),iq 35 (.pick (.s 31) (.s 34) (.c (.bool false)))]
 (.cond (.s 35)
 (.reg [ik 12 18])
 .skip))))))))
 (.seqj [0,4,11,13,14,15]
 (sr [im 56 12,iq 57 (.eq (.one .i) true (.s 56) (ci 0))]
 (.cond (.s 57)
 (sr [im 58 12,ik 6 0,im 7 58]
 .ret)
 .skip))
 (.reg [im 59 11,iq 60 (.bsl 1 1 [(.int .i64 0)] [(0,1,(.s 59))]),im 8 60])))))))
 (.reg [iq 61 (.bin .add (.s 15) (ci 1)),im 15 61])))))))
 (.seqj [8]
 (sr [im 62 8,iq 63 (.lenL (.s 62)),iq 64 (.eq (.one .i) false (.s 63) (ci 0))]
 (.cond (.s 64)
 (sr [ik 6 0,ik 7 12]
 .ret)
 .skip))
 (sr [im 65 8,iq 66 (.iaddrS 1 (.s 65) (ci 0)),il 67 66,im 6 67,ik 7 0]
 .ret)))))}
theorem JrT :compFn Tryz.prog Tryz.f35 [[8],[0,4,8,13,14,15],[0,4,8,13,14,15],[0,4,8,13,14,15],[0,4,11,12,13,14,15],[0,4,11,13,14,15],[8]]=some Yz:=by kernel_rfl
def QF :Eva.Fn:={ntmps:=71,res:=[.s 8, .s 9],body:=
 (sr [iq 4 (.box (.s 0)),iq 6 (.box (.s 2)),ik 8 0,ik 9 0]
 (sr [ia 16 0 6,il 17 16,iq 18 (.lenL (.s 17)),iq 19 (.bin .sub (.s 18) (ci 1)),ia 20 0 6,il 21 20,iq 22 (.lenL (.s 21)),iq 23 (.mksl 1 [(.int .i64 0)] (.s 19) (.s 22)),im 10 23]
 (.seqj [1,3,6,10]
 (sr [ia 24 0 6,il 25 24,iq 26 (.cutL 7 (.s 25) (some (ci 1)) none none),iq 27 (.lenL (.s 26)),ik 28 0]
 (.block 0
 (.loop [1,3,4,6,10,26,27,28]
 (sr [iq 29 (.bin .lss (.s 28) (.s 27))]
 (.seqj [1,3,4,6,10,26,27,28]
 (.cond (.s 29)
 .skip
 (.exit 0))
 (.seqj [1,3,4,6,10,26,27,28]
 (.block 1
 (sr [im 30 28,iq 31 (.iaddrS 7 (.s 26) (.s 28)),iq 32 (.loadn 7 (.s 31)),iq 12 (.alloc [(.int .i64 0),(ofL []), .snil,(ofL []),(.int .i64 0),(.bool false), .snil]),im 11 30,iz (.store 7 (.s 12) (.s 32))]
 (sr [iq 34 (.loadn 3 (.s 4)),im 35 1,iq 36 (.loadn 7 (.s 12)),iq 37 (.call 64 [.s 34, .s 35, .s 36]),im 33 37,ie 38 0 33,ie 39 1 33,im 13 38,im 14 39]
 (.seqj [1,3,4,6,10,11,13,26,27,28]
 (sr [im 40 14,iq 41 (.eq (.one .i) true (.s 40) (ci 0))]
 (.cond (.s 41)
 (sr [im 42 14,ik 8 0,im 9 42]
 .ret)
 .skip))
 (.reg [im 43 10,im 44 11,im 45 13,iq 46 (.iaddrS 1 (.s 43) (.s 44)),iz (.store 1 (.s 46) (.s 45))])))))
 (.reg [iq 47 (.bin .add (.s 28) (ci 1)),im 28 47])))))))
 (sr [im 48 10,iq 49 (.lenL (.s 48)),im 50 3,iq 51 (.lenL (.s 50)),iq 52 (.bin .add (.s 49) (.s 51)),iq 53 (.mksl 1 [(.int .i64 0)] (.s 52) (.s 52)),im 15 53]
 (sr [im 54 15,im 55 15,im 56 10,iq 57 (.copy 1 (.s 55) (.s 56)),iq 58 (.cutL 1 (.s 54) (some (.s 57)) none none),im 59 3,iq 60 (.copy 1 (.s 58) (.s 59))]
 (sr [im 61 1,ia 62 0 6,il 63 62,iq 64 (.iaddrS 7 (.s 63) (ci 0)),ia 65 3 64,il 66 65,im 67 15,iq 68 (.call 90 [.s 61, .s 66, .s 67]),ie 69 0 68,ie 70 1 68,im 8 69,im 9 70]
 .ret))))))}
theorem JrU :compFn Tryz.prog Tryz.f63 [[1,3,6,10],[1,3,4,6,10,26,27,28],[1,3,4,6,10,26,27,28],[1,3,4,6,10,26,27,28],[1,3,4,6,10,11,13,26,27,28]]=some QF:=by kernel_rfl
def Ku :Eva.Fn:={ntmps:=51,res:=[.s 6, .s 7],body:=
 (sr [iq 3 (.box (.s 0)),iq 5 (.box (.s 2)),ik 6 0,ik 7 0]
 (.seqj [1,3,5]
 (sr [ia 8 0 5,il 9 8]
 (.block 0
 (sr [iq 11 (.eq (.one .i) false (.s 9) (ci 2)),im 10 11]
 (.cond (.s 10)
 (sr [im 12 1,iq 13 (.call 91 [.s 12,(ci 3)]),ie 14 0 13,ie 15 1 13,im 6 14,im 7 15]
 .ret)
 (sr [iq 17 (.eq (.one .i) false (.s 9) (ci 3)),im 16 17]
 (.cond (.s 16)
 (sr [im 18 1,iq 19 (.call 91 [.s 18,(ci 2)]),ie 20 0 19,ie 21 1 19,im 6 20,im 7 21]
 .ret)
 (sr [iq 23 (.eq (.one .i) false (.s 9) (ci 4)),im 22 23]
 (.cond (.s 22)
 (sr [im 24 1,iq 25 (.call 91 [.s 24,(ci 1)]),ie 26 0 25,ie 27 1 25,im 6 26,im 7 27]
 .ret)
 (sr [iq 29 (.eq (.one .i) false (.s 9) (ci 5)),im 28 29]
 (.cond (.s 28)
 (sr [im 30 1,iq 31 (.loadn 3 (.s 3)),ia 32 6 5,il 33 32,iq 34 (.call 35 [.s 30, .s 31, .s 33]),ie 35 0 34,ie 36 1 34,im 6 35,im 7 36]
 .ret)
 (sr [iq 38 (.eq (.one .i) false (.s 9) (ci 6)),im 37 38]
 (.cond (.s 37)
 (sr [im 39 1,ia 40 3 5,il 41 40,iq 42 (.call 90 [.s 39, .s 41,(.c .snil)]),ie 43 0 42,ie 44 1 42,im 6 43,im 7 44]
 .ret)
 .skip))))))))))))
 (sr [iq 45 (.loadn 3 (.s 3)),im 46 1,iq 47 (.loadn 7 (.s 5)),iq 48 (.call 92 [.s 45, .s 46, .s 47]),ie 49 0 48,ie 50 1 48,im 6 49,im 7 50]
 .ret)))}
theorem JrV :compFn Tryz.prog Tryz.f64 [[1,3,5]]=some Ku:=by kernel_rfl
def K1 :Eva.Fn:={ntmps:=12,res:=[.s 4, .s 5],body:=
 (sr [ik 4 0,ik 5 0]
 (sr [im 6 0,im 7 1,iq 8 (.build [(.int .i64 0),(ofL []), .snil, .snil] [(0,1,(.s 7))]),iq 9 (.call 80 [.s 6, .s 8]),ie 10 0 9,ie 11 1 9,im 4 10,im 5 11]
 .ret))}
theorem JrW :compFn Tryz.prog Tryz.f91 []=some K1:=by kernel_rfl
def YA :Eva.Fn:={ntmps:=112,res:=[.s 6, .s 7],body:=
 (sr [ik 6 0,ik 7 0]
 (sr [im 26 0,im 27 1,iq 28 (.call 118 [.s 26, .s 27]),im 25 28,ie 29 0 25,ie 30 1 25,ie 31 2 25,im 8 29,im 9 30,im 10 31]
 (sr [im 32 8,iq 33 (.lenL (.s 32)),im 11 33]
 (.seqj [0,1,2,8,9,11]
 (.block 0
 (sr [im 35 1,iq 36 (.call 76 [.s 35]),im 34 36]
 (.cond (.s 34)
 (.reg [im 37 1,iq 38 (.call 119 [.s 37]),im 11 38])
 (sr [im 40 10,iq 41 (.not (.s 40)),im 39 41]
 (.cond (.s 39)
 (sr [ik 6 0,ik 7 15]
 .ret)
 .skip)))))
 (.seqj [0,1,2,8,9]
 (sr [im 42 2,iq 43 (.lenL (.s 42)),im 44 11,iq 45 (.eq (.one .i) true (.s 43) (.s 44))]
 (.cond (.s 45)
 (sr [ik 6 0,ik 7 18]
 .ret)
 .skip))
 (.seqj [0,1,2]
 (sr [im 46 1,iq 47 (.call 76 [.s 46]),iq 48 (.not (.s 47))]
 (.cond (.s 48)
 (.seqj [9]
 (sr [im 49 8,iq 50 (.lenL (.s 49)),ik 51 0]
 (.block 1
 (.loop [0,2,9,49,50,51]
 (sr [iq 52 (.bin .lss (.s 51) (.s 50))]
 (.seqj [0,2,9,49,50,51]
 (.cond (.s 52)
 .skip
 (.exit 1))
 (.seqj [0,2,9,49,50,51]
 (.block 2
 (sr [im 53 51,iq 54 (.iaddrS 1 (.s 49) (.s 51)),il 55 54,im 12 53,im 13 55]
 (sr [im 57 0,im 58 2,im 59 12,iq 60 (.iaddrS 1 (.s 58) (.s 59)),il 61 60,im 62 13,iq 63 (.call 120 [.s 57, .s 61, .s 62]),im 56 63,ie 64 0 56,ie 65 1 56,im 14 64,im 15 65]
 (sr [im 66 14,iq 67 (.not (.s 66))]
 (.cond (.s 67)
 (sr [ik 6 0,ik 7 17]
 .ret)
 .skip)))))
 (.reg [iq 68 (.bin .add (.s 51) (ci 1)),im 51 68])))))))
 (sr [im 69 9,im 6 69,ik 7 0]
 .ret))
 .skip))
 (sr [im 70 0,im 71 2,iq 72 (.build [.pnil, .snil, .snil] [(0,1,(.s 70)),(2,1,(.s 71))]),iq 16 (.alloc [.pnil, .snil, .snil]),iz (.store 3 (.s 16) (.s 72))]
 (.seqj [1,16]
 (sr [im 73 2,iq 74 (.lenL (.s 73)),ik 75 0]
 (.block 3
 (.loop [0,1,16,73,74,75]
 (sr [iq 76 (.bin .lss (.s 75) (.s 74))]
 (.seqj [0,1,16,73,74,75]
 (.cond (.s 76)
 .skip
 (.exit 3))
 (.seqj [0,1,16,73,74,75]
 (.block 4
 (sr [iq 77 (.iaddrS 1 (.s 73) (.s 75)),il 78 77,im 18 78]
 (sr [im 80 0,im 81 18,iq 82 (.call 93 [.s 80, .s 81]),im 79 82,ie 83 0 79,ie 84 1 79,im 19 83,im 20 84]
 (sr [im 86 0,im 87 19,iq 88 (.call 94 [.s 86, .s 87]),im 85 88,ie 89 0 85,ie 90 1 85,iq 21 (.alloc [(.int .i64 0),(ofL []), .snil, .snil]),iz (.store 4 (.s 21) (.s 89)),im 22 90]
 (.seqj [0,1,16,21,73,74,75]
 (sr [im 92 0,im 93 18,iq 94 (.call 93 [.s 92, .s 93]),im 91 94,ie 95 0 91,ie 96 1 91,im 23 95,im 24 96]
 (sr [im 97 24,iq 98 (.not (.s 97))]
 (.cond (.s 98)
 (.reg [iq 99 (.build [(.int .i64 0),(ofL []), .snil, .snil] []),iz (.store 4 (.s 21) (.s 99))])
 .skip)))
 (.reg [ia 100 1 16,il 101 100,iq 102 (.loadn 4 (.s 21)),iq 103 (.bsl 4 1 [(.int .i64 0),(ofL []), .snil, .snil] [(0,4,(.s 102))]),iq 104 (.app 4 (.s 101) (.s 103)),ia 105 1 16,iz (.store 1 (.s 105) (.s 104))]))))))
 (.reg [iq 106 (.bin .add (.s 75) (ci 1)),im 75 106])))))))
 (sr [iq 107 (.loadn 3 (.s 16)),im 108 1,iq 109 (.call 121 [.s 107, .s 108]),ie 110 0 109,ie 111 1 109,im 6 110,im 7 111]
 .ret)))))))))}
theorem JrX :compFn Tryz.prog Tryz.f90 [[0,1,2,8,9,11],[0,1,2,8,9],[0,1,2],[9],[0,2,9,49,50,51],[0,2,9,49,50,51],[0,2,9,49,50,51],[1,16],[0,1,16,73,74,75],[0,1,16,73,74,75],[0,1,16,73,74,75],[0,1,16,21,73,74,75]]=some YA:=by kernel_rfl
def Qk :Eva.Fn:={ntmps:=32,res:=[.s 4, .s 5, .s 6],body:=
 (sr [iq 4 (.mv (.c .snil)),ik 5 0,iq 6 (.mv (.c (.bool false)))]
 (sr [im 10 0,iq 11 (.nilck (.s 10)),ia 12 4 11,il 13 12,im 14 1,iq 15 (.lookup (.one .s) .snil true (.s 13) (.s 14)),im 9 15,ie 16 0 9,ie 17 1 9,im 7 16,im 8 17]
 (.seqj [7]
 (sr [im 18 8,iq 19 (.not (.s 18))]
 (.cond (.s 19)
 (sr [iq 4 (.mv (.c .snil)),ik 5 0,iq 6 (.mv (.c (.bool false)))]
 .ret)
 .skip))
 (.seq
 (.drw [im 20 7,im 21 7,iq 22 (.lenL (.s 21)),iq 23 (.bin .sub (.s 22) (ci 1)),iq 24 (.cutL 1 (.s 20) none (some (.s 23)) none),iq 25 (.call 113 [.s 24]),im 26 7,im 27 7,iq 28 (.lenL (.s 27)),iq 29 (.bin .sub (.s 28) (ci 1)),iq 30 (.iaddrS 1 (.s 26) (.s 29)),il 31 30,im 4 25,im 5 31,iq 6 (.mv (.c (.bool true)))] [])
 .ret))))}
theorem JpA :compFn Tryz.prog Tryz.f118 [[7]]=some Qk:=by kernel_rfl
def Yd :Eva.Fn:={ntmps:=16,res:=[.s 2],body:=
 (sr [ik 2 0]
 (.seqj []
 (sr [im 3 0]
 (.block 0
 (.seqj []
 (.block 2
 (.block 1
 (.seqj []
 (.seqj [3]
 (.seqj [3,4]
 (sr [iq 5 (.eq (.one .s) false (.s 3) (.c (ofL [108,101,110]))),im 4 5]
 (.cond (.s 4)
 .skip
 (sr [iq 6 (.eq (.one .s) false (.s 3) (.c (ofL [110,111,116]))),im 4 6]
 (.cond (.s 4)
 .skip
 (sr [iq 7 (.eq (.one .s) false (.s 3) (.c (ofL [116,101,120,116]))),im 4 7]
 (.cond (.s 4)
 .skip
 (sr [iq 8 (.eq (.one .s) false (.s 3) (.c (ofL [104,97,115]))),im 4 8]
 (.cond (.s 4)
 .skip
 (sr [iq 9 (.eq (.one .s) false (.s 3) (.c (ofL [105,56]))),im 4 9]
 (.cond (.s 4)
 .skip
 (sr [iq 10 (.eq (.one .s) false (.s 3) (.c (ofL [105,49,54]))),im 4 10]
 (.cond (.s 4)
 .skip
 (sr [iq 11 (.eq (.one .s) false (.s 3) (.c (ofL [105,51,50]))),im 4 11]
 (.cond (.s 4)
 .skip
 (.reg [iq 12 (.eq (.one .s) false (.s 3) (.c (ofL [117,56]))),im 4 12])))))))))))))))
 (.cond (.s 4)
 (.exit 1)
 .skip))
 (.seqj [13]
 (sr [iq 14 (.eq (.one .s) false (.s 3) (.c (ofL [117,49,54]))),im 13 14]
 (.cond (.s 13)
 .skip
 (.reg [iq 15 (.eq (.one .s) false (.s 3) (.c (ofL [117,51,50]))),im 13 15])))
 (.cond (.s 13)
 (.exit 2)
 .skip)))
 (.exit 0))))
 (.seq
 (sr [ik 2 1]
 .ret)
 (.exit 0)))))
 (sr [ik 2 2]
 .ret)))}
theorem JpB :compFn Tryz.prog Tryz.f119 [[],[],[],[3],[3,4],[13]]=some Yd:=by kernel_rfl
def QP :Eva.Fn:={ntmps:=8,res:=[.s 2],body:=
 (sr [ik 2 0]
 (sr [im 3 0,iq 4 (.nilck (.s 3)),ia 5 0 4,il 6 5,iq 7 (.lenL (.s 6)),im 2 7]
 .ret))}
theorem JpC :compFn Tryz.prog Tryz.f131 []=some QP:=by kernel_rfl
def K5 :Eva.Fn:={ntmps:=57,res:=[.s 4, .s 5],body:=
 (sr [ik 4 0,iq 5 (.mv (.c (.bool false)))]
 (.seqj []
 (sr [im 8 0,iq 9 (.nilck (.s 8)),ia 10 0 9,il 11 10,iq 12 (.lenL (.s 11)),iq 13 (.bin .add (.s 12) (ci 1)),ik 14 0]
 (.block 0
 (.loop [0,1,13,14]
 (sr [iq 15 (.bin .lss (.s 14) (.s 13))]
 (.seqj [0,1,13,14]
 (.cond (.s 15)
 .skip
 (.exit 0))
 (.seqj [0,1,13,14]
 (.block 1
 (.seqj [0,1,13,14]
 (sr [im 16 1,iq 17 (.bin .lss (.s 16) (ci 0)),im 18 17,ig 19 18 false (.mv (.s 1)),ig 20 18 false (.mv (.s 0)),ig 21 18 false (.nilck (.s 20)),ig 22 18 false (.faddr 0 (.s 21)),ig 23 18 false (.load1 (.s 22)),ig 24 18 false (.lenL (.s 23)),ig 25 18 false (.bin .geq (.s 19) (.s 24)),iq 26 (.pick (.s 18) (.c (.bool true)) (.s 25))]
 (.cond (.s 26)
 (sr [ik 4 0,iq 5 (.mv (.c (.bool false)))]
 .ret)
 .skip))
 (.seqj [0,1,13,14]
 (sr [im 27 0,iq 28 (.nilck (.s 27)),ia 29 0 28,il 30 29,im 31 1,iq 32 (.iaddrS 4 (.s 30) (.s 31)),ia 33 0 32,il 34 33,iq 35 (.eq (.one .i) true (.s 34) (ci 9))]
 (.cond (.s 35)
 (sr [im 36 1,im 4 36,iq 5 (.mv (.c (.bool true)))]
 .ret)
 .skip))
 (.seq
 (.drw [im 38 0,iq 39 (.nilck (.s 38)),ia 40 2 39,il 41 40,im 42 0,iq 43 (.nilck (.s 42)),ia 44 0 43,il 45 44,im 46 1,iq 47 (.iaddrS 4 (.s 45) (.s 46)),ia 48 1 47,il 49 48,iq 50 (.lookup (.one .s) (.int .i64 0) true (.s 41) (.s 49)),im 37 50,ie 51 0 37,ie 52 1 37,im 6 51,im 7 52] [])
 (.seqj [0,6,13,14]
 (sr [im 53 7,iq 54 (.not (.s 53))]
 (.cond (.s 54)
 (.reg [iq 6 (.mv (.c (.int .i64 (-1))))])
 .skip))
 (.reg [im 55 6,im 1 55]))))))
 (.reg [iq 56 (.bin .add (.s 14) (ci 1)),im 14 56])))))))
 (sr [ik 4 0,iq 5 (.mv (.c (.bool false)))]
 .ret)))}
theorem JrY :compFn Tryz.prog Tryz.f93 [[],[0,1,13,14],[0,1,13,14],[0,1,13,14],[0,1,13,14],[0,1,13,14],[0,6,13,14]]=some K5:=by kernel_rfl
def K6 :Eva.Fn:={ntmps:=35,res:=[(.cn 4 4), .s 5],body:=
 (sr [iq 4 (.alloc [(.int .i64 0),(ofL []), .snil, .snil]),iq 5 (.mv (.c (.bool false)))]
 (.seqj [0,1,4]
 (sr [im 7 1,iq 8 (.bin .lss (.s 7) (ci 0)),im 9 8,ig 10 9 false (.mv (.s 1)),ig 11 9 false (.mv (.s 0)),ig 12 9 false (.nilck (.s 11)),ig 13 9 false (.faddr 0 (.s 12)),ig 14 9 false (.load1 (.s 13)),ig 15 9 false (.lenL (.s 14)),ig 16 9 false (.bin .geq (.s 10) (.s 15)),iq 17 (.pick (.s 9) (.c (.bool true)) (.s 16))]
 (.cond (.s 17)
 (sr [iq 18 (.build [(.int .i64 0),(ofL []), .snil, .snil] []),iz (.store 4 (.s 4) (.s 18)),iq 5 (.mv (.c (.bool false)))]
 .ret)
 .skip))
 (sr [im 19 0,iq 20 (.nilck (.s 19)),ia 21 0 20,il 22 21,im 23 1,iq 24 (.iaddrS 4 (.s 22) (.s 23)),iq 25 (.loadn 4 (.s 24)),iq 6 (.alloc [(.int .i64 0),(ofL []), .snil, .snil]),iz (.store 4 (.s 6) (.s 25))]
 (.seq
 (.drw [ia 26 2 6,il 27 26,iq 28 (.call 112 [.s 27]),ia 29 3 6,il 30 29,⟨(some 31),(.call 113 [.s 30]),none,(some [])⟩,ia 32 2 6,iz (.store 1 (.s 32) (.s 28)),ia 33 3 6,iz (.store 1 (.s 33) (.s 31))] [])
 (sr [iq 34 (.loadn 4 (.s 6)),iz (.store 4 (.s 4) (.s 34)),iq 5 (.mv (.c (.bool true)))]
 .ret)))))}
theorem JrZ :compFn Tryz.prog Tryz.f94 [[0,1,4]]=some K6:=by kernel_rfl
def Km :Eva.Fn:={ntmps:=19,res:=[.s 4],body:=
 (sr [ik 4 0]
 (.seqj []
 (sr [im 6 0,iq 7 (.lenL (.s 6)),ik 8 0]
 (.block 0
 (.loop [0,1,7,8]
 (sr [iq 9 (.bin .lss (.s 8) (.s 7))]
 (.seqj [0,1,7,8]
 (.cond (.s 9)
 .skip
 (.exit 0))
 (.seqj [0,1,7,8]
 (.block 1
 (sr [im 10 8,im 5 10]
 (sr [im 11 1,im 12 0,im 13 5,iq 14 (.iaddrS 1 (.s 12) (.s 13)),il 15 14,iq 16 (.eq (.one .s) false (.s 11) (.s 15))]
 (.cond (.s 16)
 (sr [im 17 5,im 4 17]
 .ret)
 .skip))))
 (.reg [iq 18 (.bin .add (.s 8) (ci 1)),im 8 18])))))))
 (sr [iq 4 (.mv (.c (.int .i64 (-1))))]
 .ret)))}
theorem JpD :compFn Tryz.prog Tryz.f103 [[],[0,1,7,8],[0,1,7,8],[0,1,7,8]]=some Km:=by kernel_rfl
def Kn :Eva.Fn:={ntmps:=173,res:=[.s 4, .s 5],body:=
 (sr [iq 2 (.box (.s 0)),ik 4 0,ik 5 0]
 (sr [ia 7 1 2,il 8 7,iq 9 (.iaddrS 4 (.s 8) (ci 0)),ia 10 0 9,il 11 10,im 6 11]
 (.seqj [2]
 (sr [im 12 1]
 (.block 0
 (sr [iq 14 (.eq (.one .s) false (.s 12) (.c (ofL [108,101,110]))),im 13 14]
 (.cond (.s 13)
 (sr [iq 15 (.loadn 3 (.s 2)),im 16 6,iq 17 (.eq (.one .i) false (.s 16) (ci 3)),im 18 17,ig 19 18 false (.mv (.s 6)),ig 20 18 false (.eq (.one .i) false (.s 19) (ci 4)),iq 21 (.pick (.s 18) (.c (.bool true)) (.s 20)),im 22 21,ig 23 22 false (.mv (.s 6)),ig 24 22 false (.eq (.one .i) false (.s 23) (ci 5)),iq 25 (.pick (.s 22) (.c (.bool true)) (.s 24)),iq 26 (.call 133 [.s 15,(ci 2), .s 25]),ie 27 0 26,ie 28 1 26,im 4 27,im 5 28]
 .ret)
 (sr [iq 30 (.eq (.one .s) false (.s 12) (.c (ofL [110,111,116]))),im 29 30]
 (.cond (.s 29)
 (.seq
 (.drw [iq 31 (.loadn 3 (.s 2)),iq 32 (.loadn 3 (.s 2)),iq 33 (.bsl 1 1 [(.int .i64 0)] [(0,1,(ci 1))]),⟨(some 34),(.call 134 [.s 32, .s 33]),none,(some [2])⟩,⟨(some 35),(.call 133 [.s 31,(ci 1), .s 34]),none,(some [])⟩,ie 36 0 35,ie 37 1 35,im 4 36,im 5 37] [])
 .ret)
 (.seqj [2,6,12,38]
 (sr [iq 39 (.eq (.one .s) false (.s 12) (.c (ofL [97,110,100]))),im 38 39]
 (.cond (.s 38)
 .skip
 (.reg [iq 40 (.eq (.one .s) false (.s 12) (.c (ofL [111,114]))),im 38 40])))
 (.cond (.s 38)
 (.seq
 (.drw [iq 41 (.loadn 3 (.s 2)),iq 42 (.loadn 3 (.s 2)),iq 43 (.bsl 1 2 [(.int .i64 0),(.int .i64 0)] [(0,1,(ci 1)),(1,1,(ci 1))]),⟨(some 44),(.call 134 [.s 42, .s 43]),none,(some [2])⟩,⟨(some 45),(.call 133 [.s 41,(ci 1), .s 44]),none,(some [])⟩,ie 46 0 45,ie 47 1 45,im 4 46,im 5 47] [])
 .ret)
 (sr [iq 49 (.eq (.one .s) false (.s 12) (.c (ofL [101,113]))),im 48 49]
 (.cond (.s 48)
 (.seq
 (.drw [iq 50 (.loadn 3 (.s 2)),im 51 6,iq 52 (.bin .geq (.s 51) (ci 1)),im 53 52,ig 54 53 true (.mv (.s 6)),ig 55 53 true (.bin .leq (.s 54) (ci 3)),iq 56 (.pick (.s 53) (.s 55) (.c (.bool false))),im 57 56,ig 58 57 true (.loadn 3 (.s 2)),ig 59 57 true (.mv (.s 6)),ig 60 57 true (.mv (.s 6)),ig 61 57 true (.bsl 1 2 [(.int .i64 0),(.int .i64 0)] [(0,1,(.s 59)),(1,1,(.s 60))]),⟨(some 62),(.call 134 [.s 58, .s 61]),(some (57,true)),(some [2])⟩,iq 63 (.pick (.s 57) (.s 62) (.c (.bool false))),⟨(some 64),(.call 133 [.s 50,(ci 1), .s 63]),none,(some [])⟩,ie 65 0 64,ie 66 1 64,im 4 65,im 5 66] [])
 .ret)
 (sr [iq 68 (.eq (.one .s) false (.s 12) (.c (ofL [108,116]))),im 67 68]
 (.cond (.s 67)
 (.seq
 (.drw [iq 69 (.loadn 3 (.s 2)),iq 70 (.loadn 3 (.s 2)),iq 71 (.bsl 1 2 [(.int .i64 0),(.int .i64 0)] [(0,1,(ci 2)),(1,1,(ci 2))]),⟨(some 72),(.call 134 [.s 70, .s 71]),none,(some [2])⟩,⟨(some 73),(.call 133 [.s 69,(ci 1), .s 72]),none,(some [])⟩,ie 74 0 73,ie 75 1 73,im 4 74,im 5 75] [])
 .ret)
 (.seqj [2,6,12,76]
 (sr [iq 77 (.eq (.one .s) false (.s 12) (.c (ofL [97,100,100]))),im 76 77]
 (.cond (.s 76)
 .skip
 (sr [iq 78 (.eq (.one .s) false (.s 12) (.c (ofL [115,117,98]))),im 76 78]
 (.cond (.s 76)
 .skip
 (sr [iq 79 (.eq (.one .s) false (.s 12) (.c (ofL [109,117,108]))),im 76 79]
 (.cond (.s 76)
 .skip
 (sr [iq 80 (.eq (.one .s) false (.s 12) (.c (ofL [115,104,108]))),im 76 80]
 (.cond (.s 76)
 .skip
 (.reg [iq 81 (.eq (.one .s) false (.s 12) (.c (ofL [115,104,114]))),im 76 81])))))))))
 (.cond (.s 76)
 (.seq
 (.drw [iq 82 (.loadn 3 (.s 2)),iq 83 (.loadn 3 (.s 2)),iq 84 (.bsl 1 2 [(.int .i64 0),(.int .i64 0)] [(0,1,(ci 2)),(1,1,(ci 2))]),⟨(some 85),(.call 134 [.s 83, .s 84]),none,(some [2])⟩,⟨(some 86),(.call 133 [.s 82,(ci 2), .s 85]),none,(some [])⟩,ie 87 0 86,ie 88 1 86,im 4 87,im 5 88] [])
 .ret)
 (sr [iq 90 (.eq (.one .s) false (.s 12) (.c (ofL [99,97,116]))),im 89 90]
 (.cond (.s 89)
 (.seq
 (.drw [iq 91 (.loadn 3 (.s 2)),iq 92 (.loadn 3 (.s 2)),iq 93 (.bsl 1 2 [(.int .i64 0),(.int .i64 0)] [(0,1,(ci 3)),(1,1,(ci 3))]),⟨(some 94),(.call 134 [.s 92, .s 93]),none,(some [2])⟩,⟨(some 95),(.call 133 [.s 91,(ci 3), .s 94]),none,(some [])⟩,ie 96 0 95,ie 97 1 95,im 4 96,im 5 97] [])
 .ret)
 (sr [iq 99 (.eq (.one .s) false (.s 12) (.c (ofL [116,101,120,116]))),im 98 99]
 (.cond (.s 98)
 (sr [iq 100 (.loadn 3 (.s 2)),im 101 6,iq 102 (.eq (.one .i) false (.s 101) (ci 2)),im 103 102,ig 104 103 false (.mv (.s 6)),ig 105 103 false (.eq (.one .i) false (.s 104) (ci 1)),iq 106 (.pick (.s 103) (.c (.bool true)) (.s 105)),iq 107 (.call 133 [.s 100,(ci 3), .s 106]),ie 108 0 107,ie 109 1 107,im 4 108,im 5 109]
 .ret)
 (sr [iq 111 (.eq (.one .s) false (.s 12) (.c (ofL [97,116]))),im 110 111]
 (.cond (.s 110)
 (.seq
 (.drw [iq 112 (.loadn 3 (.s 2)),iq 113 (.loadn 3 (.s 2)),iq 114 (.bsl 1 2 [(.int .i64 0),(.int .i64 0)] [(0,1,(ci 4)),(1,1,(ci 2))]),⟨(some 115),(.call 134 [.s 113, .s 114]),none,(some [2])⟩,⟨(some 116),(.call 135 [.s 112, .s 115]),none,(some [])⟩,ie 117 0 116,ie 118 1 116,im 4 117,im 5 118] [])
 .ret)
 (sr [iq 120 (.eq (.one .s) false (.s 12) (.c (ofL [103,101,116]))),im 119 120]
 (.cond (.s 119)
 (sr [iq 121 (.loadn 3 (.s 2)),iq 122 (.call 136 [.s 121]),ie 123 0 122,ie 124 1 122,im 4 123,im 5 124]
 .ret)
 (sr [iq 126 (.eq (.one .s) false (.s 12) (.c (ofL [104,97,115]))),im 125 126]
 (.cond (.s 125)
 (.seq
 (.drw [iq 127 (.loadn 3 (.s 2)),iq 128 (.loadn 3 (.s 2)),iq 129 (.bsl 1 1 [(.int .i64 0)] [(0,1,(ci 6))]),⟨(some 130),(.call 134 [.s 128, .s 129]),none,(some [2])⟩,⟨(some 131),(.call 133 [.s 127,(ci 1), .s 130]),none,(some [])⟩,ie 132 0 131,ie 133 1 131,im 4 132,im 5 133] [])
 .ret)
 (sr [iq 135 (.eq (.one .s) false (.s 12) (.c (ofL [111,114,101,108,115,101]))),im 134 135]
 (.cond (.s 134)
 (.seq
 (.drw [iq 136 (.loadn 3 (.s 2)),iq 137 (.loadn 3 (.s 2)),iq 138 (.bsl 1 1 [(.int .i64 0)] [(0,1,(ci 6))]),⟨(some 139),(.call 134 [.s 137, .s 138]),none,(some [2])⟩,im 140 139,ig 141 140 true (.faddr 1 (.s 2)),ig 142 140 true (.load1 (.s 141)),ig 143 140 true (.iaddrS 4 (.s 142) (ci 0)),ig 144 140 true (.faddr 3 (.s 143)),ig 145 140 true (.load1 (.s 144)),ig 146 140 true (.lenL (.s 145)),ig 147 140 true (.eq (.one .i) false (.s 146) (ci 1)),iq 148 (.pick (.s 140) (.s 147) (.c (.bool false))),im 149 148,ig 150 149 true (.faddr 2 (.s 2)),ig 151 149 true (.load1 (.s 150)),ig 152 149 true (.iaddrS 1 (.s 151) (ci 1)),ig 153 149 true (.load1 (.s 152)),ig 154 149 true (.faddr 1 (.s 2)),ig 155 149 true (.load1 (.s 154)),ig 156 149 true (.iaddrS 4 (.s 155) (ci 0)),ig 157 149 true (.faddr 3 (.s 156)),ig 158 149 true (.load1 (.s 157)),ig 159 149 true (.iaddrS 1 (.s 158) (ci 0)),ig 160 149 true (.load1 (.s 159)),ig 161 149 true (.eq (.one .i) false (.s 153) (.s 160)),iq 162 (.pick (.s 149) (.s 161) (.c (.bool false))),⟨(some 163),(.call 135 [.s 136, .s 162]),none,(some [])⟩,ie 164 0 163,ie 165 1 163,im 4 164,im 5 165] [])
 .ret)
 .skip))))))))))))))))))))))))))
 (.seq
 (.drw [iq 166 (.loadn 3 (.s 2)),iq 167 (.loadn 3 (.s 2)),iq 168 (.bsl 1 1 [(.int .i64 0)] [(0,1,(ci 2))]),⟨(some 169),(.call 134 [.s 167, .s 168]),none,(some [2])⟩,⟨(some 170),(.call 133 [.s 166,(ci 2), .s 169]),none,(some [])⟩,ie 171 0 170,ie 172 1 170,im 4 171,im 5 172] [])
 .ret))))}
theorem JpE :compFn Tryz.prog Tryz.f121 [[2],[2,6,12,38],[2,6,12,76]]=some Kn:=by kernel_rfl
def KQ :Eva.Fn:={ntmps:=16,res:=[.s 6, .s 7],body:=
 (sr [iq 3 (.box (.s 0)),ik 6 0,ik 7 0]
 (.seqj [1,3]
 (sr [im 8 2,iq 9 (.not (.s 8))]
 (.cond (.s 9)
 (sr [ik 6 0,ik 7 17]
 .ret)
 .skip))
 (sr [ia 10 0 3,il 11 10,im 12 1,iq 13 (.call 91 [.s 11, .s 12]),ie 14 0 13,ie 15 1 13,im 6 14,im 7 15]
 .ret)))}
theorem JpF :compFn Tryz.prog Tryz.f133 [[1,3]]=some KQ:=by kernel_rfl
def K7 :Eva.Fn:={ntmps:=23,res:=[.s 4],body:=
 (sr [iq 2 (.box (.s 0)),iq 4 (.mv (.c (.bool false)))]
 (.seqj []
 (sr [im 7 1,iq 8 (.lenL (.s 7)),ik 9 0]
 (.block 0
 (.loop [2,7,8,9]
 (sr [iq 10 (.bin .lss (.s 9) (.s 8))]
 (.seqj [2,7,8,9]
 (.cond (.s 10)
 .skip
 (.exit 0))
 (.seqj [2,7,8,9]
 (.block 1
 (sr [im 11 9,iq 12 (.iaddrS 1 (.s 7) (.s 9)),il 13 12,im 5 11,im 6 13]
 (sr [ia 14 1 2,il 15 14,im 16 5,iq 17 (.iaddrS 4 (.s 15) (.s 16)),ia 18 0 17,il 19 18,im 20 6,iq 21 (.eq (.one .i) true (.s 19) (.s 20))]
 (.cond (.s 21)
 (sr [iq 4 (.mv (.c (.bool false)))]
 .ret)
 .skip))))
 (.reg [iq 22 (.bin .add (.s 9) (ci 1)),im 9 22])))))))
 (sr [iq 4 (.mv (.c (.bool true)))]
 .ret)))}
theorem JpG :compFn Tryz.prog Tryz.f134 [[],[2,7,8,9],[2,7,8,9],[2,7,8,9]]=some K7:=by kernel_rfl
def QG :Eva.Fn:={ntmps:=24,res:=[.s 4, .s 5],body:=
 (sr [iq 2 (.box (.s 0)),ik 4 0,ik 5 0]
 (.seqj [2]
 (sr [im 6 1,iq 7 (.not (.s 6)),im 8 7,ig 9 8 false (.faddr 1 (.s 2)),ig 10 8 false (.load1 (.s 9)),ig 11 8 false (.iaddrS 4 (.s 10) (ci 0)),ig 12 8 false (.faddr 3 (.s 11)),ig 13 8 false (.load1 (.s 12)),ig 14 8 false (.lenL (.s 13)),ig 15 8 false (.eq (.one .i) false (.s 14) (ci 0)),iq 16 (.pick (.s 8) (.c (.bool true)) (.s 15))]
 (.cond (.s 16)
 (sr [ik 4 0,ik 5 17]
 .ret)
 .skip))
 (sr [ia 17 1 2,il 18 17,iq 19 (.iaddrS 4 (.s 18) (ci 0)),ia 20 3 19,il 21 20,iq 22 (.iaddrS 1 (.s 21) (ci 0)),il 23 22,im 4 23,ik 5 0]
 .ret)))}
theorem JpH :compFn Tryz.prog Tryz.f135 [[2]]=some QG:=by kernel_rfl
def QQ :Eva.Fn:={ntmps:=13,res:=[.s 4, .s 5],body:=
 (sr [ik 4 0,ik 5 0]
 (sr [im 6 0,im 7 1,iq 8 (.bsl 1 1 [(.int .i64 0)] [(0,1,(.s 7))]),iq 9 (.build [(.int .i64 0),(ofL []), .snil, .snil] [(0,1,(ci 6)),(3,1,(.s 8))]),iq 10 (.call 80 [.s 6, .s 9]),ie 11 0 10,ie 12 1 10,im 4 11,im 5 12]
 .ret))}
theorem JpI :compFn Tryz.prog Tryz.f143 []=some QQ:=by kernel_rfl
def QH :Eva.Fn:={ntmps:=82,res:=[.s 6, .s 7],body:=
 (sr [iq 3 (.box (.s 0)),iq 5 (.box (.s 2)),ik 6 0,ik 7 0]
 (sr [iq 20 (.loadn 3 (.s 3)),ia 21 1 5,il 22 21,iq 23 (.call 122 [.s 20, .s 22]),im 19 23,ie 24 0 19,ie 25 1 19,im 8 24,im 9 25]
 (.seqj [1,3,5,8]
 (sr [im 26 9,iq 27 (.not (.s 26))]
 (.cond (.s 27)
 (sr [ik 6 0,ik 7 15]
 .ret)
 .skip))
 (sr [iq 29 (.loadn 3 (.s 3)),im 30 8,ia 31 2 5,il 32 31,iq 33 (.call 123 [.s 29, .s 30, .s 32]),im 28 33,ie 34 0 28,ie 35 1 28,im 10 34,im 11 35]
 (.seqj [10]
 (sr [ia 36 2 5,il 37 36,im 38 11,iq 39 (.cutL 1 (.s 37) (some (.s 38)) none none),iq 40 (.lenL (.s 39)),ik 41 0]
 (.block 0
 (.loop [1,10,39,40,41]
 (sr [iq 42 (.bin .lss (.s 41) (.s 40))]
 (.seqj [1,10,39,40,41]
 (.cond (.s 42)
 .skip
 (.exit 0))
 (.seqj [1,10,39,40,41]
 (.block 1
 (sr [iq 43 (.iaddrS 1 (.s 39) (.s 41)),il 44 43,im 13 44]
 (sr [im 46 1,im 47 10,iq 48 (.call 93 [.s 46, .s 47]),im 45 48,ie 49 0 45,ie 50 1 45,im 14 49,im 15 50]
 (sr [im 52 1,im 53 14,iq 54 (.call 94 [.s 52, .s 53]),im 51 54,ie 55 0 51,ie 56 1 51,iq 16 (.alloc [(.int .i64 0),(ofL []), .snil, .snil]),iz (.store 4 (.s 16) (.s 55)),im 17 56]
 (sr [ia 57 2 16,il 58 57,im 59 13,iq 60 (.call 103 [.s 58, .s 59]),im 18 60]
 (.seqj [1,16,18,39,40,41]
 (sr [ia 61 0 16,il 62 61,iq 63 (.eq (.one .i) true (.s 62) (ci 7)),im 64 63,ig 65 64 false (.mv (.s 18)),ig 66 64 false (.bin .lss (.s 65) (ci 0)),iq 67 (.pick (.s 64) (.c (.bool true)) (.s 66)),im 68 67,ig 69 68 false (.mv (.s 18)),ig 70 68 false (.faddr 3 (.s 16)),ig 71 68 false (.load1 (.s 70)),ig 72 68 false (.lenL (.s 71)),ig 73 68 false (.bin .geq (.s 69) (.s 72)),iq 74 (.pick (.s 68) (.c (.bool true)) (.s 73))]
 (.cond (.s 74)
 (sr [ik 6 0,ik 7 16]
 .ret)
 .skip))
 (.reg [ia 75 3 16,il 76 75,im 77 18,iq 78 (.iaddrS 1 (.s 76) (.s 77)),il 79 78,im 10 79])))))))
 (.reg [iq 80 (.bin .add (.s 41) (ci 1)),im 41 80])))))))
 (sr [im 81 10,im 6 81,ik 7 0]
 .ret))))))}
theorem Jr0 :compFn Tryz.prog Tryz.f92 [[1,3,5,8],[10],[1,10,39,40,41],[1,10,39,40,41],[1,10,39,40,41],[1,16,18,39,40,41]]=some QH:=by kernel_rfl
def QI :Eva.Fn:={ntmps:=66,res:=[.s 6, .s 7],body:=
 (sr [iq 3 (.box (.s 0)),ik 6 0,ik 7 0]
 (sr [ia 12 0 3,il 13 12,im 8 13,ik 9 0]
 (.seqj [1,2,3,8,9]
 (sr [im 14 1,iq 15 (.eq (.one .i) true (.s 14) (.c (.int .i64 (-1))))]
 (.cond (.s 15)
 (.reg [ia 16 1 3,il 17 16,im 18 1,iq 19 (.iaddrS 2 (.s 17) (.s 18)),ia 20 1 19,il 21 20,im 8 21])
 .skip))
 (.seqj [8,9]
 (sr [ia 22 2 3,il 23 22,iq 24 (.lenL (.s 23)),ik 25 0]
 (.block 0
 (.loop [1,2,8,9,23,24,25]
 (sr [iq 26 (.bin .lss (.s 25) (.s 24))]
 (.seqj [1,2,8,9,23,24,25]
 (.cond (.s 26)
 .skip
 (.exit 0))
 (.seqj [1,2,8,9,23,24,25]
 (.block 1
 (sr [iq 27 (.iaddrS 3 (.s 23) (.s 25)),iq 28 (.loadn 3 (.s 27)),iq 11 (.alloc [(.int .i64 0), .snil,(.int .i64 0)]),iz (.store 3 (.s 11) (.s 28))]
 (.seq
 (.drw [ia 29 0 11,il 30 29,im 31 1,iq 32 (.eq (.one .i) false (.s 30) (.s 31)),im 33 32,ig 34 33 true (.faddr 1 (.s 11)),ig 35 33 true (.load1 (.s 34)),ig 36 33 true (.lenL (.s 35)),ig 37 33 true (.mv (.s 9)),ig 38 33 true (.bin .geq (.s 36) (.s 37)),iq 39 (.pick (.s 33) (.s 38) (.c (.bool false))),im 40 39,ig 41 40 true (.faddr 1 (.s 11)),ig 42 40 true (.load1 (.s 41)),ig 43 40 true (.lenL (.s 42)),ig 44 40 true (.mv (.s 2)),ig 45 40 true (.lenL (.s 44)),ig 46 40 true (.bin .leq (.s 43) (.s 45)),iq 47 (.pick (.s 40) (.s 46) (.c (.bool false))),im 48 47,ig 49 48 true (.faddr 1 (.s 11)),ig 50 48 true (.load1 (.s 49)),ig 51 48 true (.mv (.s 2)),ig 52 48 true (.faddr 1 (.s 11)),ig 53 48 true (.load1 (.s 52)),ig 54 48 true (.lenL (.s 53)),ig 55 48 true (.cutL 1 (.s 51) none (some (.s 54)) none),⟨(some 56),(.call 137 [.s 50, .s 55]),(some (48,true)),(some [])⟩,iq 57 (.pick (.s 48) (.s 56) (.c (.bool false)))] [])
 (.cond (.s 57)
 (.drw [ia 58 2 11,il 59 58,ia 60 1 11,il 61 60,iq 62 (.lenL (.s 61)),im 8 59,im 9 62] [])
 .skip))))
 (.reg [iq 63 (.bin .add (.s 25) (ci 1)),im 25 63])))))))
 (sr [im 64 8,im 65 9,im 6 64,im 7 65]
 .ret)))))}
theorem JpJ :compFn Tryz.prog Tryz.f123 [[1,2,3,8,9],[8,9],[1,2,8,9,23,24,25],[1,2,8,9,23,24,25],[1,2,8,9,23,24,25]]=some QI:=by kernel_rfl
def KL :Eva.Fn:={ntmps:=26,res:=[.s 4],body:=
 (sr [iq 4 (.mv (.c (.bool false)))]
 (.seqj [0,1]
 (sr [im 6 0,iq 7 (.lenL (.s 6)),im 8 1,iq 9 (.lenL (.s 8)),iq 10 (.eq (.one .i) true (.s 7) (.s 9))]
 (.cond (.s 10)
 (sr [iq 4 (.mv (.c (.bool false)))]
 .ret)
 .skip))
 (.seqj []
 (sr [im 11 0,iq 12 (.lenL (.s 11)),ik 13 0]
 (.block 0
 (.loop [0,1,12,13]
 (sr [iq 14 (.bin .lss (.s 13) (.s 12))]
 (.seqj [0,1,12,13]
 (.cond (.s 14)
 .skip
 (.exit 0))
 (.seqj [0,1,12,13]
 (.block 1
 (sr [im 15 13,im 5 15]
 (.seq
 (.drw [im 16 0,im 17 5,iq 18 (.iaddrS 1 (.s 16) (.s 17)),il 19 18,im 20 1,im 21 5,iq 22 (.iaddrS 1 (.s 20) (.s 21)),il 23 22,iq 24 (.eq (.one .s) true (.s 19) (.s 23))] [])
 (.cond (.s 24)
 (sr [iq 4 (.mv (.c (.bool false)))]
 .ret)
 .skip))))
 (.reg [iq 25 (.bin .add (.s 13) (ci 1)),im 13 25])))))))
 (sr [iq 4 (.mv (.c (.bool true)))]
 .ret))))}
theorem JpK :compFn Tryz.prog Tryz.f137 [[0,1],[],[0,1,12,13],[0,1,12,13],[0,1,12,13]]=some KL:=by kernel_rfl
def KI :Eva.Fn:={ntmps:=108,res:=[.s 8],body:=
 (sr [iq 5 (.box (.s 1)),iq 6 (.box (.s 2)),ik 8 0]
 (sr [im 10 0,im 11 3,iq 12 (.call 65 [.s 10, .s 11]),iq 9 (.alloc [(.int .i64 0),(ofL []), .snil, .snil]),iz (.store 4 (.s 9) (.s 12))]
 (.seqj []
 (sr [ia 13 0 6,il 14 13]
 (.block 0
 (sr [iq 16 (.eq (.one .i) false (.s 14) (ci 2)),im 15 16]
 (.cond (.s 15)
 (sr [ia 17 0 9,il 18 17,iq 19 (.bin .lss (.s 18) (ci 1)),im 20 19,ig 21 20 false (.faddr 0 (.s 9)),ig 22 20 false (.load1 (.s 21)),ig 23 20 false (.bin .gtr (.s 22) (ci 3)),iq 24 (.pick (.s 20) (.c (.bool true)) (.s 23))]
 (.cond (.s 24)
 (sr [ik 8 17]
 .ret)
 .skip))
 (sr [iq 26 (.eq (.one .i) false (.s 14) (ci 4)),im 25 26]
 (.cond (.s 25)
 (sr [im 27 0,iq 28 (.loadn 3 (.s 5)),ia 29 3 6,il 30 29,im 31 3,iq 32 (.call 66 [.s 27, .s 28, .s 30, .s 31]),im 8 32]
 .ret)
 (sr [iq 34 (.eq (.one .i) false (.s 14) (ci 5)),im 33 34]
 (.cond (.s 33)
 (sr [im 35 0,iq 36 (.loadn 3 (.s 5)),iq 37 (.loadn 9 (.s 6)),im 38 3,iq 39 (.call 67 [.s 35, .s 36, .s 37, .s 38]),im 8 39]
 .ret)
 (sr [iq 41 (.eq (.one .i) false (.s 14) (ci 6)),im 40 41]
 (.cond (.s 40)
 (.seqj [0,3,5,6]
 (sr [ia 42 0 9,il 43 42,iq 44 (.eq (.one .i) false (.s 43) (ci 6)),im 45 44,ig 46 45 true (.faddr 3 (.s 9)),ig 47 45 true (.load1 (.s 46)),ig 48 45 true (.lenL (.s 47)),ig 49 45 true (.eq (.one .i) false (.s 48) (ci 1)),iq 50 (.pick (.s 45) (.s 49) (.c (.bool false)))]
 (.cond (.s 50)
 (.reg [ia 51 3 9,il 52 51,iq 53 (.iaddrS 1 (.s 52) (ci 0)),il 54 53,im 3 54])
 .skip))
 (.seq
 (.drw [im 55 0,iq 56 (.loadn 3 (.s 5)),im 57 3,iq 58 (.call 69 [.s 56, .s 57]),ia 59 5 6,il 60 59,iq 61 (.loadn 3 (.s 5)),ia 62 6 6,il 63 62,⟨(some 64),(.call 68 [.s 55, .s 58, .s 60, .s 61, .s 63]),none,(some [])⟩,im 8 64] [])
 .ret))
 (sr [iq 66 (.eq (.one .i) false (.s 14) (ci 7)),im 65 66]
 (.cond (.s 65)
 (.seqj [0,5,6,9]
 (sr [ia 67 0 9,il 68 67,iq 69 (.eq (.one .i) true (.s 68) (ci 4)),im 70 69,ig 71 70 true (.faddr 0 (.s 9)),ig 72 70 true (.load1 (.s 71)),ig 73 70 true (.eq (.one .i) true (.s 72) (ci 5)),iq 74 (.pick (.s 70) (.s 73) (.c (.bool false))),im 75 74,ig 76 75 false (.faddr 3 (.s 9)),ig 77 75 false (.load1 (.s 76)),ig 78 75 false (.lenL (.s 77)),ig 79 75 false (.eq (.one .i) true (.s 78) (ci 1)),iq 80 (.pick (.s 75) (.c (.bool true)) (.s 79))]
 (.cond (.s 80)
 (sr [ik 8 17]
 .ret)
 .skip))
 (.seq
 (.drw [im 81 0,iq 82 (.loadn 3 (.s 5)),ia 83 3 9,il 84 83,iq 85 (.iaddrS 1 (.s 84) (ci 0)),il 86 85,iq 87 (.call 69 [.s 82, .s 86]),ia 88 5 6,il 89 88,iq 90 (.loadn 3 (.s 5)),ia 91 6 6,il 92 91,⟨(some 93),(.call 68 [.s 81, .s 87, .s 89, .s 90, .s 92]),none,(some [])⟩,im 8 93] [])
 .ret))
 (sr [iq 95 (.eq (.one .i) false (.s 14) (ci 8)),im 94 95]
 (.cond (.s 94)
 (sr [im 96 0,iq 97 (.loadn 3 (.s 5)),iq 98 (.loadn 9 (.s 6)),im 99 3,iq 100 (.call 70 [.s 96, .s 97, .s 98, .s 99]),im 8 100]
 .ret)
 (sr [iq 102 (.eq (.one .i) false (.s 14) (ci 9)),im 101 102]
 (.cond (.s 101)
 (sr [im 103 0,iq 104 (.loadn 3 (.s 5)),iq 105 (.loadn 9 (.s 6)),im 106 3,iq 107 (.call 71 [.s 103, .s 104, .s 105, .s 106]),im 8 107]
 .ret)
 .skip))))))))))))))))
 (sr [ik 8 0]
 .ret))))}
theorem Jr1 :compFn Tryz.prog Tryz.f36 [[],[0,3,5,6],[0,5,6,9]]=some KI:=by kernel_rfl
def KR :Eva.Fn:={ntmps:=31,res:=[(.cn 4 4)],body:=
 (sr [iq 4 (.alloc [(.int .i64 0),(ofL []), .snil, .snil])]
 (sr [im 10 0,iq 11 (.nilck (.s 10)),ia 12 0 11,il 13 12,im 14 1,iq 15 (.call 93 [.s 13, .s 14]),im 9 15,ie 16 0 9,ie 17 1 9,im 5 16,im 6 17]
 (.seqj [0,4,5]
 (sr [im 18 6,iq 19 (.not (.s 18))]
 (.cond (.s 19)
 (sr [iq 20 (.build [(.int .i64 0),(ofL []), .snil, .snil] []),iz (.store 4 (.s 4) (.s 20))]
 .ret)
 .skip))
 (sr [im 22 0,iq 23 (.nilck (.s 22)),ia 24 0 23,il 25 24,im 26 5,iq 27 (.call 94 [.s 25, .s 26]),im 21 27,ie 28 0 21,ie 29 1 21,iq 7 (.alloc [(.int .i64 0),(ofL []), .snil, .snil]),iz (.store 4 (.s 7) (.s 28)),im 8 29]
 (sr [iq 30 (.loadn 4 (.s 7)),iz (.store 4 (.s 4) (.s 30))]
 .ret)))))}
theorem Jr2 :compFn Tryz.prog Tryz.f65 [[0,4,5]]=some KR:=by kernel_rfl
def Qr :Eva.Fn:={ntmps:=56,res:=[.s 8],body:=
 (sr [iq 5 (.box (.s 1)),iq 6 (.box (.s 2)),ik 8 0]
 (sr [im 14 0,im 15 3,iq 16 (.call 65 [.s 14, .s 15]),iq 9 (.alloc [(.int .i64 0),(ofL []), .snil, .snil]),iz (.store 4 (.s 9) (.s 16))]
 (sr [iq 17 (.loadn 3 (.s 5)),iq 10 (.alloc [(.int .i64 0), .snil, .snil]),iz (.store 3 (.s 10) (.s 17))]
 (.seqj []
 (sr [ia 18 0 9,il 19 18]
 (.block 0
 (.seqj [0,5,6,10]
 (.block 2
 (.seqj [0,5,6,9,10]
 (.block 1
 (.seqj []
 (.seqj [0,5,6,10,19]
 (sr [iq 21 (.eq (.one .i) false (.s 19) (ci 6)),im 20 21]
 (.cond (.s 20)
 (.exit 1)
 .skip))
 (sr [iq 23 (.eq (.one .i) false (.s 19) (ci 1)),im 22 23]
 (.cond (.s 22)
 (.exit 2)
 .skip)))
 (.exit 0)))
 (sr [iq 25 (.loadn 3 (.s 5)),ia 26 4 6,il 27 26,iq 28 (.call 98 [.s 25, .s 27]),im 24 28,ie 29 0 24,ie 30 1 24,ie 31 2 24,im 11 29,im 12 30,im 13 31]
 (sr [im 32 13,im 33 32,ig 34 33 true (.faddr 3 (.s 9)),ig 35 33 true (.load1 (.s 34)),ig 36 33 true (.lenL (.s 35)),ig 37 33 true (.eq (.one .i) false (.s 36) (ci 1)),iq 38 (.pick (.s 33) (.s 37) (.c (.bool false)))]
 (.cond (.s 38)
 (.drw [iq 39 (.loadn 3 (.s 5)),im 40 11,im 41 12,ia 42 3 9,il 43 42,iq 44 (.iaddrS 1 (.s 43) (ci 0)),il 45 44,iq 46 (.build [(.int .i64 0), .snil,(.int .i64 0)] [(0,1,(.s 40)),(1,1,(.s 41)),(2,1,(.s 45))]),⟨(some 47),(.call 99 [.s 39, .s 46]),none,(some [])⟩,iz (.store 3 (.s 10) (.s 47))] [])
 .skip)))))
 (.seq
 (sr [im 48 0,iq 49 (.loadn 3 (.s 10)),ia 50 5 6,il 51 50,iq 52 (.loadn 3 (.s 5)),ia 53 6 6,il 54 53,iq 55 (.call 68 [.s 48, .s 49, .s 51, .s 52, .s 54]),im 8 55]
 .ret)
 (.exit 0)))))
 (sr [ik 8 17]
 .ret)))))}
theorem Jr3 :compFn Tryz.prog Tryz.f67 [[],[0,5,6,10],[0,5,6,9,10],[],[0,5,6,10,19]]=some Qr:=by kernel_rfl
def YC :Eva.Fn:={ntmps:=49,res:=[.s 4, .s 5, .s 6],body:=
 (sr [iq 2 (.box (.s 0)),ik 4 0,iq 5 (.mv (.c .snil)),iq 6 (.mv (.c (.bool false)))]
 (.seqj [1,2]
 (sr [im 9 1,iq 10 (.lenL (.s 9)),iq 11 (.eq (.one .i) true (.s 10) (ci 1)),im 12 11,ig 13 12 false (.mv (.s 1)),ig 14 12 false (.iaddrS 1 (.s 13) (ci 0)),ig 15 12 false (.faddr 0 (.s 14)),ig 16 12 false (.load1 (.s 15)),ig 17 12 false (.lenL (.s 16)),ig 18 12 false (.eq (.one .i) true (.s 17) (ci 1)),iq 19 (.pick (.s 12) (.c (.bool true)) (.s 18)),im 20 19,ig 21 20 false (.mv (.s 1)),ig 22 20 false (.iaddrS 1 (.s 21) (ci 0)),ig 23 20 false (.faddr 0 (.s 22)),ig 24 20 false (.load1 (.s 23)),ig 25 20 false (.iaddrS 7 (.s 24) (ci 0)),ig 26 20 false (.faddr 0 (.s 25)),ig 27 20 false (.load1 (.s 26)),ig 28 20 false (.eq (.one .i) true (.s 27) (ci 1)),iq 29 (.pick (.s 20) (.c (.bool true)) (.s 28))]
 (.cond (.s 29)
 (sr [ik 4 0,iq 5 (.mv (.c .snil)),iq 6 (.mv (.c (.bool false)))]
 .ret)
 .skip))
 (sr [im 30 1,iq 31 (.iaddrS 1 (.s 30) (ci 0)),ia 32 0 31,il 33 32,iq 34 (.iaddrS 7 (.s 33) (ci 0)),iq 35 (.loadn 7 (.s 34)),iq 7 (.alloc [(.int .i64 0),(ofL []), .snil,(ofL []),(.int .i64 0),(.bool false), .snil]),iz (.store 7 (.s 7) (.s 35))]
 (sr [iq 37 (.loadn 3 (.s 2)),ia 38 1 7,il 39 38,iq 40 (.call 122 [.s 37, .s 39]),im 36 40,ie 41 0 36,ie 42 1 36,im 4 41,im 8 42]
 (.seqj [4,7]
 (sr [im 43 8,iq 44 (.not (.s 43))]
 (.cond (.s 44)
 (sr [ik 4 0,iq 5 (.mv (.c .snil)),iq 6 (.mv (.c (.bool false)))]
 .ret)
 .skip))
 (sr [im 45 4,ia 46 2 7,il 47 46,iq 48 (.call 112 [.s 47]),im 4 45,im 5 48,iq 6 (.mv (.c (.bool true)))]
 .ret))))))}
theorem Jr4 :compFn Tryz.prog Tryz.f98 [[1,2],[4,7]]=some YC:=by kernel_rfl
def Yk :Eva.Fn:={ntmps:=21,res:=[(.cn 4 3)],body:=
 (sr [iq 2 (.box (.s 0)),iq 3 (.box (.s 1)),iq 4 (.alloc [(.int .i64 0), .snil, .snil])]
 (sr [ia 6 2 2,il 7 6,iq 8 (.lenL (.s 7)),iq 9 (.bin .add (.s 8) (ci 1)),iq 10 (.mksl 3 [(.int .i64 0), .snil,(.int .i64 0)] (.s 9) (.s 9)),im 5 10]
 (.seq
 (.drw [im 11 5,im 12 5,ia 13 2 2,il 14 13,iq 15 (.copy 3 (.s 12) (.s 14)),iq 16 (.loadn 3 (.s 3)),iq 17 (.iaddrS 3 (.s 11) (.s 15)),iz (.store 3 (.s 17) (.s 16))] [([12],[3])])
 (sr [im 18 5,ia 19 2 2,iz (.store 1 (.s 19) (.s 18))]
 (sr [iq 20 (.loadn 3 (.s 2)),iz (.store 3 (.s 4) (.s 20))]
 .ret)))))}
theorem Jr5 :compFn Tryz.prog Tryz.f99 []=some Yk:=by kernel_rfl
def KS :Eva.Fn:={ntmps:=23,res:=[.s 10],body:=
 (sr [iq 6 (.box (.s 1)),iq 8 (.box (.s 3)),ik 10 0]
 (.seqj [0,4,8]
 (sr [im 12 0,iq 13 (.loadn 3 (.s 6)),im 14 2,iq 15 (.call 17 [.s 12, .s 13, .s 14]),im 11 15]
 (sr [im 16 11,iq 17 (.eq (.one .i) true (.s 16) (ci 0))]
 (.cond (.s 17)
 (sr [im 18 11,im 10 18]
 .ret)
 .skip)))
 (sr [im 19 0,iq 20 (.loadn 3 (.s 8)),im 21 4,iq 22 (.call 17 [.s 19, .s 20, .s 21]),im 10 22]
 .ret)))}
theorem Jr6 :compFn Tryz.prog Tryz.f68 [[0,4,8]]=some KS:=by kernel_rfl
def YD :Eva.Fn:={ntmps:=13,res:=[(.cn 4 3)],body:=
 (sr [iq 2 (.box (.s 0)),iq 4 (.alloc [(.int .i64 0), .snil, .snil])]
 (sr [im 5 1,ia 6 0 2,iz (.store 1 (.s 6) (.s 5))]
 (sr [ia 7 2 2,il 8 7,iq 9 (.call 101 [.s 8]),iq 10 (.call 100 [.s 9,(.c (.fn 102 [] []))]),ia 11 2 2,iz (.store 1 (.s 11) (.s 10))]
 (sr [iq 12 (.loadn 3 (.s 2)),iz (.store 3 (.s 4) (.s 12))]
 .ret))))}
theorem Jr7 :compFn Tryz.prog Tryz.f69 []=some YD:=by kernel_rfl
def KM :Eva.Fn:={ntmps:=8,res:=[.s 2],body:=
 (sr [iq 2 (.mv (.c .snil))]
 (.seqj [0]
 (sr [im 3 0,iq 4 (.eq (.one .l) false (.s 3) (.c .snil))]
 (.cond (.s 4)
 (sr [iq 2 (.mv (.c .snil))]
 .ret)
 .skip))
 (sr [iq 5 (.bsl 3 0 [] []),im 6 0,iq 7 (.app 3 (.s 5) (.s 6)),im 2 7]
 .ret)))}
theorem JpL :compFn Tryz.prog Tryz.f101 [[0]]=some KM:=by kernel_rfl
def J6 :Eva.Fn:={ntmps:=42,res:=[.s 4],body:=
 (sr [iq 4 (.mv (.c .snil))]
 (sr [im 8 0,im 9 1,iq 10 (.call 125 [.s 8, .s 9]),im 5 10]
 (.seqj [0,1,5]
 (sr [im 11 5,iq 12 (.eq (.one .i) false (.s 11) (.c (.int .i64 (-1))))]
 (.cond (.s 12)
 (sr [im 13 0,im 4 13]
 .ret)
 .skip))
 (.seqj [0,5]
 (sr [im 14 5,iq 15 (.bin .add (.s 14) (ci 1)),im 6 15]
 (.block 0
 (.loop [0,1,5,6]
 (.seqj [0,1,5,6]
 (sr [im 16 6,im 17 0,iq 18 (.lenL (.s 17)),iq 19 (.bin .lss (.s 16) (.s 18))]
 (.cond (.s 19)
 .skip
 (.exit 0)))
 (.seqj [0,1,5,6]
 (.block 1
 (sr [im 22 0,im 23 6,iq 24 (.iaddrS 3 (.s 22) (.s 23)),iq 25 (.loadn 3 (.s 24)),iq 7 (.alloc [(.int .i64 0), .snil,(.int .i64 0)]),iz (.store 3 (.s 7) (.s 25))]
 (sr [im 26 1,iq 27 (.loadn 3 (.s 7)),iq 28 (.callv (.s 26) [.s 27]),iq 29 (.not (.s 28))]
 (.cond (.s 29)
 (sr [im 30 0,im 31 5,iq 32 (.loadn 3 (.s 7)),iq 33 (.iaddrS 3 (.s 30) (.s 31)),iz (.store 3 (.s 33) (.s 32))]
 (.reg [im 34 5,iq 35 (.bin .add (.s 34) (ci 1)),im 5 35]))
 .skip))))
 (.reg [im 20 6,iq 21 (.bin .add (.s 20) (ci 1)),im 6 21]))))))
 (sr [im 36 0,im 37 5,iq 38 (.cutL 3 (.s 36) (some (.s 37)) none none),iz (.clear 3 [(.int .i64 0), .snil,(.int .i64 0)] (.s 38))]
 (sr [im 39 0,im 40 5,iq 41 (.cutL 3 (.s 39) none (some (.s 40)) none),im 4 41]
 .ret))))))}
theorem JpM :compFn Tryz.prog Tryz.f100 [[0,1,5],[0,5],[0,1,5,6],[0,1,5,6],[0,1,5,6]]=some J6:=by kernel_rfl
def Ke :Eva.Fn:={ntmps:=19,res:=[.s 4],body:=
 (sr [ik 4 0]
 (.seqj []
 (sr [im 6 0,iq 7 (.lenL (.s 6)),ik 8 0]
 (.block 0
 (.loop [0,1,7,8]
 (sr [iq 9 (.bin .lss (.s 8) (.s 7))]
 (.seqj [0,1,7,8]
 (.cond (.s 9)
 .skip
 (.exit 0))
 (.seqj [0,1,7,8]
 (.block 1
 (sr [im 10 8,im 5 10]
 (sr [im 11 1,im 12 0,im 13 5,iq 14 (.iaddrS 3 (.s 12) (.s 13)),iq 15 (.loadn 3 (.s 14)),iq 16 (.callv (.s 11) [.s 15])]
 (.cond (.s 16)
 (sr [im 17 5,im 4 17]
 .ret)
 .skip))))
 (.reg [iq 18 (.bin .add (.s 8) (ci 1)),im 8 18])))))))
 (sr [iq 4 (.mv (.c (.int .i64 (-1))))]
 .ret)))}
theorem JpN :compFn Tryz.prog Tryz.f125 [[],[0,1,7,8],[0,1,7,8],[0,1,7,8]]=some Ke:=by kernel_rfl
def Yl :Eva.Fn:={ntmps:=6,res:=[.s 2],body:=
 (sr [iq 1 (.box (.s 0)),iq 2 (.mv (.c (.bool false)))]
 (sr [ia 3 0 1,il 4 3,iq 5 (.eq (.one .i) false (.s 4) (.c (.int .i64 (-1)))),im 2 5]
 .ret))}
theorem JpO :compFn Tryz.prog Tryz.f102 []=some Yl:=by kernel_rfl
def KJ :Eva.Fn:={ntmps:=82,res:=[.s 8],body:=
 (sr [iq 5 (.box (.s 1)),iq 6 (.box (.s 2)),ik 8 0]
 (sr [im 15 0,im 16 3,iq 17 (.call 65 [.s 15, .s 16]),iq 9 (.alloc [(.int .i64 0),(ofL []), .snil, .snil]),iz (.store 4 (.s 9) (.s 17))]
 (.seqj [0,5,6,9]
 (sr [ia 18 0 9,il 19 18,iq 20 (.eq (.one .i) true (.s 19) (ci 8))]
 (.cond (.s 20)
 (sr [ik 8 17]
 .ret)
 .skip))
 (sr [ia 21 2 9,il 22 21,iq 23 (.lenL (.s 22)),iq 24 (.mksl 1 [(.bool false)] (.s 23) (.s 23)),im 10 24]
 (.seqj [0,5,6,10]
 (sr [ia 25 8 6,il 26 25,iq 27 (.lenL (.s 26)),ik 28 0]
 (.block 0
 (.loop [0,5,6,9,10,26,27,28]
 (sr [iq 29 (.bin .lss (.s 28) (.s 27))]
 (.seqj [0,5,6,9,10,26,27,28]
 (.cond (.s 29)
 .skip
 (.exit 0))
 (.seqj [0,5,6,9,10,26,27,28]
 (.block 1
 (sr [iq 30 (.iaddrS 2 (.s 26) (.s 28)),iq 31 (.loadn 2 (.s 30)),iq 12 (.alloc [(ofL []), .snil]),iz (.store 2 (.s 12) (.s 31))]
 (sr [ia 32 2 9,il 33 32,ia 34 0 12,il 35 34,iq 36 (.call 103 [.s 33, .s 35]),im 13 36]
 (.seqj [0,5,6,9,10,12,13,26,27,28]
 (sr [im 37 13,iq 38 (.bin .lss (.s 37) (ci 0)),im 39 38,ig 40 39 false (.mv (.s 13)),ig 41 39 false (.faddr 3 (.s 9)),ig 42 39 false (.load1 (.s 41)),ig 43 39 false (.lenL (.s 42)),ig 44 39 false (.bin .geq (.s 40) (.s 43)),iq 45 (.pick (.s 39) (.c (.bool true)) (.s 44)),im 46 45,ig 47 46 false (.mv (.s 10)),ig 48 46 false (.mv (.s 13)),ig 49 46 false (.iaddrS 1 (.s 47) (.s 48)),ig 50 46 false (.load1 (.s 49)),iq 51 (.pick (.s 46) (.c (.bool true)) (.s 50))]
 (.cond (.s 51)
 (sr [ik 8 19]
 .ret)
 .skip))
 (sr [im 52 10,im 53 13,iq 54 (.iaddrS 1 (.s 52) (.s 53)),iz (.store 1 (.s 54) (.c (.bool true)))]
 (.seq
 (.drw [im 55 0,iq 56 (.loadn 3 (.s 5)),ia 57 3 9,il 58 57,im 59 13,iq 60 (.iaddrS 1 (.s 58) (.s 59)),il 61 60,iq 62 (.call 69 [.s 56, .s 61]),ia 63 1 12,il 64 63,⟨(some 65),(.call 17 [.s 55, .s 62, .s 64]),none,(some [])⟩,im 14 65] [])
 (sr [im 66 14,iq 67 (.eq (.one .i) true (.s 66) (ci 0))]
 (.cond (.s 67)
 (sr [im 68 14,im 8 68]
 .ret)
 .skip))))))))
 (.reg [iq 69 (.bin .add (.s 28) (ci 1)),im 28 69])))))))
 (.seqj [0,5,6]
 (sr [im 70 10,iq 71 (.call 104 [.s 70,(.c (.bool false))]),im 72 71,ig 73 72 true (.faddr 7 (.s 6)),ig 74 72 true (.load1 (.s 73)),ig 75 72 true (.not (.s 74)),iq 76 (.pick (.s 72) (.s 75) (.c (.bool false)))]
 (.cond (.s 76)
 (sr [ik 8 19]
 .ret)
 .skip))
 (sr [im 77 0,iq 78 (.loadn 3 (.s 5)),ia 79 6 6,il 80 79,iq 81 (.call 17 [.s 77, .s 78, .s 80]),im 8 81]
 .ret)))))))}
theorem Jr8 :compFn Tryz.prog Tryz.f70 [[0,5,6,9],[0,5,6,10],[0,5,6,9,10,26,27,28],[0,5,6,9,10,26,27,28],[0,5,6,9,10,26,27,28],[0,5,6,9,10,12,13,26,27,28],[0,5,6]]=some KJ:=by kernel_rfl
def KB :Eva.Fn:={ntmps:=9,res:=[.s 4],body:=
 (sr [iq 4 (.mv (.c (.bool false)))]
 (sr [im 5 0,im 6 1,iq 7 (.call 126 [.s 5, .s 6]),iq 8 (.bin .geq (.s 7) (ci 0)),im 4 8]
 .ret))}
theorem JpP :compFn Tryz.prog Tryz.f104 []=some KB:=by kernel_rfl
def Qb :Eva.Fn:={ntmps:=19,res:=[.s 4],body:=
 (sr [ik 4 0]
 (.seqj []
 (sr [im 6 0,iq 7 (.lenL (.s 6)),ik 8 0]
 (.block 0
 (.loop [0,1,7,8]
 (sr [iq 9 (.bin .lss (.s 8) (.s 7))]
 (.seqj [0,1,7,8]
 (.cond (.s 9)
 .skip
 (.exit 0))
 (.seqj [0,1,7,8]
 (.block 1
 (sr [im 10 8,im 5 10]
 (sr [im 11 1,im 12 0,im 13 5,iq 14 (.iaddrS 1 (.s 12) (.s 13)),il 15 14,iq 16 (.eq (.one .b) false (.s 11) (.s 15))]
 (.cond (.s 16)
 (sr [im 17 5,im 4 17]
 .ret)
 .skip))))
 (.reg [iq 18 (.bin .add (.s 8) (ci 1)),im 8 18])))))))
 (sr [iq 4 (.mv (.c (.int .i64 (-1))))]
 .ret)))}
theorem JpQ :compFn Tryz.prog Tryz.f126 [[],[0,1,7,8],[0,1,7,8],[0,1,7,8]]=some Qb:=by kernel_rfl
def Qs :Eva.Fn:={ntmps:=36,res:=[.s 8],body:=
 (sr [iq 5 (.box (.s 1)),iq 6 (.box (.s 2)),ik 8 0]
 (.seqj [0,3,6]
 (sr [ia 9 4 6,il 10 9,iq 11 (.lenL (.s 10)),iq 12 (.eq (.one .i) false (.s 11) (ci 0))]
 (.cond (.s 12)
 (.reg [ia 13 0 5,il 14 13,im 3 14])
 .skip))
 (.seqj [0,3,6]
 (.seq
 (.drw [im 15 0,iq 16 (.nilck (.s 15)),ia 17 1 16,il 18 17,ia 19 3 6,il 20 19,⟨(some 21),(.call 105 [.s 18, .s 20]),none,(some [])⟩,iq 22 (.not (.s 21))] [])
 (.cond (.s 22)
 (sr [ik 8 15]
 .ret)
 .skip))
 (.seq
 (.drw [im 23 0,im 24 0,iq 25 (.nilck (.s 24)),ia 26 2 25,il 27 26,ia 28 3 6,il 29 28,im 30 3,iq 31 (.build [(ofL []),(.int .i64 0)] [(0,1,(.s 29)),(1,1,(.s 30))]),iq 32 (.bsl 2 1 [(ofL []),(.int .i64 0)] [(0,2,(.s 31))]),iq 33 (.app 2 (.s 27) (.s 32)),iq 34 (.nilck (.s 23)),ia 35 2 34,iz (.store 1 (.s 35) (.s 33))] [])
 (sr [ik 8 0]
 .ret)))))}
theorem Jr9 :compFn Tryz.prog Tryz.f71 [[0,3,6],[0,3,6]]=some Qs:=by kernel_rfl
def Kh :Eva.Fn:={ntmps:=9,res:=[.s 4],body:=
 (sr [iq 4 (.mv (.c (.bool false)))]
 (sr [im 5 0,im 6 1,iq 7 (.call 103 [.s 5, .s 6]),iq 8 (.bin .geq (.s 7) (ci 0)),im 4 8]
 .ret))}
theorem JpR :compFn Tryz.prog Tryz.f105 []=some Kh:=by kernel_rfl
def QV :Eva.Fn:={ntmps:=25,res:=[(.cn 6 3)],body:=
 (sr [iq 3 (.box (.s 0)),iq 6 (.alloc [(.int .i64 0), .snil, .snil])]
 (sr [ia 8 1 3,il 9 8,iq 10 (.lenL (.s 9)),iq 11 (.bin .add (.s 10) (ci 1)),iq 12 (.mksl 2 [(ofL []),(.int .i64 0)] (.s 11) (.s 11)),im 7 12]
 (sr [im 13 7,im 14 7,ia 15 1 3,il 16 15,iq 17 (.copy 2 (.s 14) (.s 16)),im 18 1,im 19 2,iq 20 (.build [(ofL []),(.int .i64 0)] [(0,1,(.s 18)),(1,1,(.s 19))]),iq 21 (.iaddrS 2 (.s 13) (.s 17)),iz (.store 2 (.s 21) (.s 20))]
 (sr [im 22 7,ia 23 1 3,iz (.store 1 (.s 23) (.s 22))]
 (sr [iq 24 (.loadn 3 (.s 3)),iz (.store 3 (.s 6) (.s 24))]
 .ret)))))}
theorem Jsa :compFn Tryz.prog Tryz.f37 []=some QV:=by kernel_rfl
def Kg :Eva.Fn:={ntmps:=15,res:=[.s 4],body:=
 (sr [ik 4 0]
 (sr [im 6 0,im 7 1,iq 8 (.bin .rem (.s 6) (.s 7)),im 5 8]
 (.seqj [5]
 (sr [im 9 5,iq 10 (.bin .lss (.s 9) (ci 0))]
 (.cond (.s 10)
 (.reg [im 11 5,im 12 1,iq 13 (.bin .add (.s 11) (.s 12)),im 5 13])
 .skip))
 (sr [im 14 5,im 4 14]
 .ret))))}
theorem JtA :compFn Tryz.prog Tryz.f6 [[5]]=some Kg:=by kernel_rfl
def K8 :Eva.Fn:={ntmps:=46,res:=[.s 4],body:=
 (sr [iq 2 (.box (.s 0)),ik 4 0]
 (sr [iq 15 (.loadn 6 (.s 2)),iq 16 (.call 8 [.s 15]),im 14 16,ie 17 0 14,ie 18 1 14,ie 19 2 14,iq 7 (.alloc [(.int .i64 0),(ofL []), .snil, .snil, .snil, .snil]),im 5 17,im 6 18,iz (.store 6 (.s 7) (.s 19))]
 (sr [im 21 1,iq 22 (.call 9 [.s 21]),im 20 22,ie 23 0 20,ie 24 1 20,ie 25 2 20,im 8 23,im 9 24,im 10 25]
 (.seqj [5,8]
 (sr [im 26 5,iq 27 (.eq (.one .p) false (.s 26) (.c .pnil)),im 28 27,ig 29 28 false (.mv (.s 10)),ig 30 28 false (.eq (.one .i) true (.s 29) (ci 0)),iq 31 (.pick (.s 28) (.c (.bool true)) (.s 30))]
 (.cond (.s 31)
 (sr [ik 4 1]
 .ret)
 .skip))
 (.seq
 (.drw [im 33 5,iq 34 (.bsl 1 1 [(ofL [])] [(0,1,(.c (ofL [116])))]),im 35 5,iq 36 (.call 11 [.s 35]),im 37 8,iq 38 (.iaddrS 2 (.s 37) (ci 0)),ia 39 1 38,il 40 39,⟨(some 41),(.call 10 [.s 33, .s 34, .s 36, .s 40]),none,(some [])⟩,im 32 41,ie 42 0 32,ie 43 1 32,ie 44 2 32,im 11 42,im 12 43,im 13 44] [])
 (sr [im 45 13,im 4 45]
 .ret))))))}
theorem JtB :compFn Tryz.prog Tryz.f7 [[5,8]]=some K8:=by kernel_rfl
noncomputable def tabD :BT:=
 (.node 65 (.node 33 (.node 18 (.node 10 (.node 6 (.node 4 (.leaf 4 (fnD 1000000 Ki))
 (.node 5 (.leaf 5 (fnD 1000000 Qm))
 (.leaf 6 (fnD 1000000 Kg))))
 (.node 8 (.node 7 (.leaf 7 (fnD 1000000 K8))
 (.leaf 8 (fnD 1000000 KE)))
 (.node 9 (.leaf 9 (fnD 1000000 KY))
 (.leaf 10 (fnD 1000000 Yo)))))
 (.node 13 (.node 11 (.leaf 11 (fnD 1000000 KZ))
 (.node 12 (.leaf 12 (fnD 1000000 Yx))
 (.leaf 13 (fnD 1000000 Qz))))
 (.node 15 (.node 14 (.leaf 14 (fnD 1000000 KH))
 (.leaf 15 (fnD 1000000 Jv)))
 (.node 17 (.leaf 17 (fnD 1000000 K0))
 (.leaf 18 (fnD 1000000 QZ))))))
 (.node 25 (.node 21 (.node 19 (.leaf 19 (fnD 1000000 Qf))
 (.node 20 (.leaf 20 (fnD 1000000 Qa))
 (.leaf 21 (fnD 1000000 KX))))
 (.node 23 (.node 22 (.leaf 22 (fnD 1000000 Kl))
 (.leaf 23 (fnD 1000000 QD)))
 (.node 24 (.leaf 24 (fnD 1000000 Qo))
 (.leaf 25 (fnD 1000000 Ko)))))
 (.node 29 (.node 27 (.node 26 (.leaf 26 (fnD 1000000 QN))
 (.leaf 27 (fnD 1000000 QO)))
 (.node 28 (.leaf 28 (fnD 1000000 Kq))
 (.leaf 29 (fnD 1000000 Kt))))
 (.node 31 (.node 30 (.leaf 30 (fnD 1000000 Kr))
 (.leaf 31 (fnD 1000000 KA)))
 (.node 32 (.leaf 32 (fnD 1000000 JB))
 (.leaf 33 (fnD 1000000 JL)))))))
 (.node 49 (.node 40 (.node 36 (.node 34 (.leaf 34 (fnD 1000000 Qq))
 (.node 35 (.leaf 35 (fnD 1000000 Yz))
 (.leaf 36 (fnD 1000000 KI))))
 (.node 38 (.node 37 (.leaf 37 (fnD 1000000 QV))
 (.leaf 38 (fnD 1000000 Q0)))
 (.node 39 (.leaf 39 (fnD 1000000 Q1))
 (.leaf 40 (fnD 1000000 KO)))))
 (.node 45 (.node 43 (.node 41 (.leaf 41 (fnD 1000000 KF))
 (.leaf 43 (fnD 1000000 JO)))
 (.node 44 (.leaf 44 (fnD 1000000 Q2))
 (.leaf 45 (fnD 1000000 KG))))
 (.node 47 (.node 46 (.leaf 46 (fnD 1000000 Kf))
 (.leaf 47 (fnD 1000000 Kj)))
 (.node 48 (.leaf 48 (fnD 1000000 JG))
 (.leaf 49 (fnD 1000000 Kw))))))
 (.node 56 (.node 52 (.node 50 (.leaf 50 (fnD 1000000 Jn))
 (.node 51 (.leaf 51 (fnD 1000000 KP))
 (.leaf 52 (fnD 1000000 QC))))
 (.node 54 (.node 53 (.leaf 53 (fnD 1000000 Qh))
 (.leaf 54 (fnD 1000000 Qj)))
 (.node 55 (.leaf 55 (fnD 1000000 QE))
 (.leaf 56 (fnD 1000000 QM)))))
 (.node 60 (.node 58 (.node 57 (.leaf 57 (fnD 1000000 JY))
 (.leaf 58 (fnD 1000000 Ks)))
 (.node 59 (.leaf 59 (fnD 1000000 JS))
 (.leaf 60 (fnD 1000000 JT))))
 (.node 63 (.node 61 (.leaf 61 (fnD 1000000 JU))
 (.leaf 63 (fnD 1000000 QF)))
 (.node 64 (.leaf 64 (fnD 1000000 Ku))
 (.leaf 65 (fnD 1000000 KR))))))))
 (.node 100 (.node 81 (.node 73 (.node 69 (.node 67 (.leaf 67 (fnD 1000000 Qr))
 (.node 68 (.leaf 68 (fnD 1000000 KS))
 (.leaf 69 (fnD 1000000 YD))))
 (.node 71 (.node 70 (.leaf 70 (fnD 1000000 KJ))
 (.leaf 71 (fnD 1000000 Qs)))
 (.node 72 (.leaf 72 (fnD 1000000 QK))
 (.leaf 73 (hookE Yf)))))
 (.node 76 (.node 74 (.leaf 74 (fnD 1000000 KK))
 (.node 75 (.leaf 75 (fnD 1000000 Qt))
 (.leaf 76 (fnD 1000000 Qy))))
 (.node 79 (.node 77 (.leaf 77 (fnD 1000000 Qn))
 (.leaf 79 (fnD 1000000 JX)))
 (.node 80 (.leaf 80 (fnD 1000000 KT))
 (.leaf 81 (fnD 1000000 JI))))))
 (.node 89 (.node 84 (.node 82 (.leaf 82 (fnD 1000000 Kk))
 (.node 83 (.leaf 83 (fnD 1000000 QA))
 (.leaf 84 (fnD 1000000 Qg))))
 (.node 86 (.node 85 (.leaf 85 (fnD 1000000 Qi))
 (.leaf 86 (fnD 1000000 Qp)))
 (.node 88 (.leaf 88 (fnD 1000000 JZ))
 (.leaf 89 (fnD 1000000 Kc)))))
 (.node 93 (.node 91 (.node 90 (.leaf 90 (fnD 1000000 YA))
 (.leaf 91 (fnD 1000000 K1)))
 (.node 92 (.leaf 92 (fnD 1000000 QH))
 (.leaf 93 (fnD 1000000 K5))))
 (.node 98 (.node 94 (.leaf 94 (fnD 1000000 K6))
 (.leaf 98 (fnD 1000000 YC)))
 (.node 99 (.leaf 99 (fnD 1000000 Yk))
 (.leaf 100 (fnD 1000000 J6)))))))
 (.node 118 (.node 107 (.node 103 (.node 101 (.leaf 101 (fnD 1000000 KM))
 (.node 102 (.leaf 102 (fnD 1000000 Yl))
 (.leaf 103 (fnD 1000000 Km))))
 (.node 105 (.node 104 (.leaf 104 (fnD 1000000 KB))
 (.leaf 105 (fnD 1000000 Kh)))
 (.node 106 (.leaf 106 (fnD 1000000 QL))
 (.leaf 107 (fnD 1000000 Yy)))))
 (.node 114 (.node 112 (.node 111 (.leaf 111 (fnD 1000000 Yc))
 (.leaf 112 (fnD 1000000 JP)))
 (.node 113 (.leaf 113 (fnD 1000000 J9))
 (.leaf 114 (fnD 1000000 QB))))
 (.node 116 (.node 115 (.leaf 115 (fnD 1000000 QR))
 (.leaf 116 (fnD 1000000 Kd)))
 (.node 117 (.leaf 117 (fnD 1000000 Kz))
 (.leaf 118 (fnD 1000000 Qk))))))
 (.node 127 (.node 122 (.node 119 (.leaf 119 (fnD 1000000 Yd))
 (.node 121 (.leaf 121 (fnD 1000000 Kn))
 (.leaf 122 (hookE place0G))))
 (.node 125 (.node 123 (.leaf 123 (fnD 1000000 QI))
 (.leaf 125 (fnD 1000000 Ke)))
 (.node 126 (.leaf 126 (fnD 1000000 Qb))
 (.leaf 127 (fnD 1000000 Ya)))))
 (.node 133 (.node 129 (.node 128 (.leaf 128 (fnD 1000000 Yb))
 (.leaf 129 (fnD 1000000 KV)))
 (.node 131 (.leaf 131 (fnD 1000000 QP))
 (.leaf 133 (fnD 1000000 KQ))))
 (.node 135 (.node 134 (.leaf 134 (fnD 1000000 K7))
 (.leaf 135 (fnD 1000000 QG)))
 (.node 137 (.leaf 137 (fnD 1000000 KL))
 (.leaf 143 (fnD 1000000 QQ)))))))))
abbrev JpS :Nat:=42
abbrev Jsb :Nat:=78
abbrev JpT :Nat:=109
abbrev JpU :Nat:=110
abbrev JkI :Nat:=87
abbrev Jfd :Nat:=62
abbrev jK :Nat:=16
abbrev JtX :Nat:=120
abbrev JmY :Nat:=132
abbrev JmZ :Nat:=142
abbrev JpV :Nat:=146
abbrev Jm0 :Nat:=147
abbrev Jmj :Nat:=136
abbrev qh :Nat:=4
theorem j6 :tabT tabD 4=some (evFn 1000000 Ki):=by kernel_rfl
abbrev Ja3 :Nat:=5
theorem JjS :tabT tabD 5=some (evFn 1000000 Qm):=by kernel_rfl
abbrev Jan :Nat:=6
theorem qJ :tabT tabD 6=some (evFn 1000000 Kg):=by kernel_rfl
abbrev JbZ :Nat:=7
theorem Ja4 :tabT tabD 7=some (evFn 1000000 K8):=by kernel_rfl
abbrev Jao :Nat:=8
theorem qK :tabT tabD 8=some (evFn 1000000 KE):=by kernel_rfl
abbrev jj :Nat:=9
theorem Ja5 :tabT tabD 9=some (evFn 1000000 KY):=by kernel_rfl
abbrev Jdf :Nat:=10
theorem Jhx :tabT tabD 10=some (evFn 1000000 Yo):=by kernel_rfl
abbrev Jb0 :Nat:=11
theorem Ja6 :tabT tabD 11=some (evFn 1000000 KZ):=by kernel_rfl
abbrev JkJ :Nat:=12
theorem JjN :tabT tabD 12=some (evFn 1000000 Yx):=by kernel_rfl
abbrev Jdk :Nat:=13
theorem JcE :tabT tabD 13=some (evFn 1000000 Qz):=by kernel_rfl
abbrev Jb1 :Nat:=14
theorem Ja7 :tabT tabD 14=some (evFn 1000000 KH):=by kernel_rfl
abbrev YE :Nat:=15
theorem kV :tabT tabD 15=some (evFn 1000000 Jv):=by kernel_rfl
abbrev Jb2 :Nat:=17
theorem Ja8 :tabT tabD 17=some (evFn 1000000 K0):=by kernel_rfl
abbrev Jfn :Nat:=18
theorem JeY :tabT tabD 18=some (evFn 1000000 QZ):=by kernel_rfl
abbrev JcF :Nat:=19
theorem Jb3 :tabT tabD 19=some (evFn 1000000 Qf):=by kernel_rfl
abbrev JjT :Nat:=20
theorem JjO :tabT tabD 20=some (evFn 1000000 Qa):=by kernel_rfl
abbrev jk :Nat:=21
theorem Ja9 :tabT tabD 21=some (evFn 1000000 KX):=by kernel_rfl
abbrev qi :Nat:=22
theorem j7 :tabT tabD 22=some (evFn 1000000 Kl):=by kernel_rfl
abbrev Jdl :Nat:=23
theorem JcG :tabT tabD 23=some (evFn 1000000 QD):=by kernel_rfl
abbrev JkK :Nat:=24
theorem JjU :tabT tabD 24=some (evFn 1000000 Qo):=by kernel_rfl
abbrev JgQ :Nat:=25
theorem Jfo :tabT tabD 25=some (evFn 1000000 Ko):=by kernel_rfl
abbrev Jm1 :Nat:=26
theorem Jmk :tabT tabD 26=some (evFn 1000000 QN):=by kernel_rfl
abbrev Jm2 :Nat:=27
theorem Jml :tabT tabD 27=some (evFn 1000000 QO):=by kernel_rfl
abbrev JgR :Nat:=28
theorem Jfp :tabT tabD 28=some (evFn 1000000 Kq):=by kernel_rfl
abbrev JgS :Nat:=29
theorem Jfq :tabT tabD 29=some (evFn 1000000 Kt):=by kernel_rfl
abbrev JgT :Nat:=30
theorem Jfr :tabT tabD 30=some (evFn 1000000 Kr):=by kernel_rfl
abbrev Jhy :Nat:=31
theorem JgU :tabT tabD 31=some (evFn 1000000 KA):=by kernel_rfl
abbrev Jy :Nat:=32
theorem Qu :tabT tabD 32=some (evFn 1000000 JB):=by kernel_rfl
abbrev Jz :Nat:=33
theorem Ym :tabT tabD 33=some (evFn 1000000 JL):=by kernel_rfl
abbrev JkL :Nat:=34
theorem JjV :tabT tabD 34=some (evFn 1000000 Qq):=by kernel_rfl
abbrev Jam :Nat:=35
theorem JeZ :tabT tabD 35=some (evFn 1000000 Yz):=by kernel_rfl
abbrev YW :Nat:=36
theorem kW :tabT tabD 36=some (evFn 1000000 KI):=by kernel_rfl
abbrev Jm8 :Nat:=37
theorem Jm3 :tabT tabD 37=some (evFn 1000000 QV):=by kernel_rfl
abbrev Jfs :Nat:=38
theorem Je0 :tabT tabD 38=some (evFn 1000000 Q0):=by kernel_rfl
abbrev Jft :Nat:=39
theorem Je1 :tabT tabD 39=some (evFn 1000000 Q1):=by kernel_rfl
abbrev kX :Nat:=40
theorem Jap :tabT tabD 40=some (evFn 1000000 KO):=by kernel_rfl
abbrev Jaq :Nat:=41
theorem qL :tabT tabD 41=some (evFn 1000000 KF):=by kernel_rfl
abbrev kY :Nat:=43
theorem kE :tabT tabD 43=some (evFn 1000000 JO):=by kernel_rfl
abbrev Jfu :Nat:=44
theorem Je2 :tabT tabD 44=some (evFn 1000000 Q2):=by kernel_rfl
abbrev Jar :Nat:=45
theorem qM :tabT tabD 45=some (evFn 1000000 KG):=by kernel_rfl
abbrev JcH :Nat:=46
theorem Jb4 :tabT tabD 46=some (evFn 1000000 Kf):=by kernel_rfl
abbrev Jb5 :Nat:=47
theorem Jba :tabT tabD 47=some (evFn 1000000 Kj):=by kernel_rfl
abbrev JcI :Nat:=48
theorem Jb6 :tabT tabD 48=some (evFn 1000000 JG):=by kernel_rfl
abbrev kz :Nat:=49
theorem qj :tabT tabD 49=some (evFn 1000000 Kw):=by kernel_rfl
abbrev Jas :Nat:=50
theorem qN :tabT tabD 50=some (evFn 1000000 Jn):=by kernel_rfl
abbrev Jbb :Nat:=51
theorem Jat :tabT tabD 51=some (evFn 1000000 KP):=by kernel_rfl
abbrev Jdm :Nat:=52
theorem JcJ :tabT tabD 52=some (evFn 1000000 QC):=by kernel_rfl
abbrev JcK :Nat:=53
theorem Jb7 :tabT tabD 53=some (evFn 1000000 Qh):=by kernel_rfl
abbrev JcL :Nat:=54
theorem Jb8 :tabT tabD 54=some (evFn 1000000 Qj):=by kernel_rfl
abbrev Jmm :Nat:=55
theorem JkM :tabT tabD 55=some (evFn 1000000 QE):=by kernel_rfl
abbrev Jm4 :Nat:=56
theorem Jmn :tabT tabD 56=some (evFn 1000000 QM):=by kernel_rfl
abbrev Je3 :Nat:=57
theorem JdK :tabT tabD 57=some (evFn 1000000 JY):=by kernel_rfl
abbrev JgV :Nat:=58
theorem Jfv :tabT tabD 58=some (evFn 1000000 Ks):=by kernel_rfl
abbrev jp :Nat:=59
theorem ja :tabT tabD 59=some (evFn 1000000 JS):=by kernel_rfl
abbrev jq :Nat:=60
theorem jb :tabT tabD 60=some (evFn 1000000 JT):=by kernel_rfl
abbrev jr :Nat:=61
theorem jc :tabT tabD 61=some (evFn 1000000 JU):=by kernel_rfl
abbrev Jdn :Nat:=63
theorem JcM :tabT tabD 63=some (evFn 1000000 QF):=by kernel_rfl
abbrev kZ :Nat:=64
theorem kA :tabT tabD 64=some (evFn 1000000 Ku):=by kernel_rfl
abbrev Jbc :Nat:=65
theorem Jau :tabT tabD 65=some (evFn 1000000 KR):=by kernel_rfl
abbrev JkN :Nat:=67
theorem JjW :tabT tabD 67=some (evFn 1000000 Qr):=by kernel_rfl
abbrev Jbd :Nat:=68
theorem Jav :tabT tabD 68=some (evFn 1000000 KS):=by kernel_rfl
abbrev Jdg :Nat:=69
theorem Jsc :tabT tabD 69=some (evFn 1000000 YD):=by kernel_rfl
abbrev Jaw :Nat:=70
theorem qO :tabT tabD 70=some (evFn 1000000 KJ):=by kernel_rfl
abbrev JkO :Nat:=71
theorem JjX :tabT tabD 71=some (evFn 1000000 Qs):=by kernel_rfl
abbrev Jhz :Nat:=72
theorem Jfw :tabT tabD 72=some (evFn 1000000 QK):=by kernel_rfl
abbrev JkP :Nat:=73
theorem Jax :tabT tabD 73=some (hookE Yf).b:=by kernel_rfl
abbrev JhA :Nat:=74
theorem Jfx :tabT tabD 74=some (evFn 1000000 KK):=by kernel_rfl
abbrev Je4 :Nat:=75
theorem Jdo :tabT tabD 75=some (evFn 1000000 Qt):=by kernel_rfl
abbrev Jdp :Nat:=76
theorem JcN :tabT tabD 76=some (evFn 1000000 Qy):=by kernel_rfl
abbrev JkQ :Nat:=77
theorem JjY :tabT tabD 77=some (evFn 1000000 Qn):=by kernel_rfl
abbrev jL :Nat:=79
theorem js :tabT tabD 79=some (evFn 1000000 JX):=by kernel_rfl
abbrev jM :Nat:=80
theorem jl :tabT tabD 80=some (evFn 1000000 KT):=by kernel_rfl
abbrev Jbe :Nat:=81
theorem Jay :tabT tabD 81=some (evFn 1000000 JI):=by kernel_rfl
abbrev Jb9 :Nat:=82
theorem Jbf :tabT tabD 82=some (evFn 1000000 Kk):=by kernel_rfl
abbrev Jdq :Nat:=83
theorem JcO :tabT tabD 83=some (evFn 1000000 QA):=by kernel_rfl
abbrev jN :Nat:=84
theorem Jca :tabT tabD 84=some (evFn 1000000 Qg):=by kernel_rfl
abbrev JcP :Nat:=85
theorem Jcb :tabT tabD 85=some (evFn 1000000 Qi):=by kernel_rfl
abbrev JkR :Nat:=86
theorem JjZ :tabT tabD 86=some (evFn 1000000 Qp):=by kernel_rfl
abbrev Je5 :Nat:=88
theorem JdL :tabT tabD 88=some (evFn 1000000 JZ):=by kernel_rfl
abbrev Jfe :Nat:=89
theorem Je6 :tabT tabD 89=some (evFn 1000000 Kc):=by kernel_rfl
abbrev Je7 :Nat:=90
theorem JjP :tabT tabD 90=some (evFn 1000000 YA):=by kernel_rfl
abbrev Jcc :Nat:=91
theorem Jbg :tabT tabD 91=some (evFn 1000000 K1):=by kernel_rfl
abbrev Jdr :Nat:=92
theorem JcQ :tabT tabD 92=some (evFn 1000000 QH):=by kernel_rfl
abbrev YX :Nat:=93
theorem Jbh :tabT tabD 93=some (evFn 1000000 K5):=by kernel_rfl
abbrev Jcd :Nat:=94
theorem Jbi :tabT tabD 94=some (evFn 1000000 K6):=by kernel_rfl
abbrev JsF :Nat:=98
theorem Jsd :tabT tabD 98=some (evFn 1000000 YC):=by kernel_rfl
abbrev JpY :Nat:=99
theorem JpW :tabT tabD 99=some (evFn 1000000 Yk):=by kernel_rfl
abbrev Je8 :Nat:=100
theorem JdM :tabT tabD 100=some (evFn 1000000 J6):=by kernel_rfl
abbrev JhH :Nat:=101
theorem JhB :tabT tabD 101=some (evFn 1000000 KM):=by kernel_rfl
abbrev JpZ :Nat:=102
theorem JpX :tabT tabD 102=some (evFn 1000000 Yl):=by kernel_rfl
abbrev ql :Nat:=103
theorem j8 :tabT tabD 103=some (evFn 1000000 Km):=by kernel_rfl
abbrev YY :Nat:=104
theorem JgW :tabT tabD 104=some (evFn 1000000 KB):=by kernel_rfl
abbrev Jfy :Nat:=105
theorem Jff :tabT tabD 105=some (evFn 1000000 Kh):=by kernel_rfl
abbrev JhC :Nat:=106
theorem Jfz :tabT tabD 106=some (evFn 1000000 QL):=by kernel_rfl
abbrev JkS :Nat:=107
theorem JjQ :tabT tabD 107=some (evFn 1000000 Yy):=by kernel_rfl
abbrev JhD :Nat:=111
theorem JfA :tabT tabD 111=some (evFn 1000000 Yc):=by kernel_rfl
abbrev qm :Nat:=112
theorem j9 :tabT tabD 112=some (evFn 1000000 JP):=by kernel_rfl
abbrev Jbj :Nat:=113
theorem Jaz :tabT tabD 113=some (evFn 1000000 J9):=by kernel_rfl
abbrev Jds :Nat:=114
theorem JcR :tabT tabD 114=some (evFn 1000000 QB):=by kernel_rfl
abbrev Je9 :Nat:=115
theorem Jdt :tabT tabD 115=some (evFn 1000000 QR):=by kernel_rfl
abbrev Jfg :Nat:=116
theorem Jfa :tabT tabD 116=some (evFn 1000000 Kd):=by kernel_rfl
abbrev JhE :Nat:=117
theorem JgX :tabT tabD 117=some (evFn 1000000 Kz):=by kernel_rfl
abbrev JcS :Nat:=118
theorem Jce :tabT tabD 118=some (evFn 1000000 Qk):=by kernel_rfl
abbrev Jcf :Nat:=119
theorem JfB :tabT tabD 119=some (evFn 1000000 Yd):=by kernel_rfl
abbrev YZ :Nat:=121
theorem qa :tabT tabD 121=some (evFn 1000000 Kn):=by kernel_rfl
abbrev Jm5 :Nat:=122
theorem Jcg :tabT tabD 122=some (hookE place0G).b:=by kernel_rfl
abbrev Jdu :Nat:=123
theorem JcT :tabT tabD 123=some (evFn 1000000 QI):=by kernel_rfl
abbrev Jfh :Nat:=125
theorem Jfb :tabT tabD 125=some (evFn 1000000 Ke):=by kernel_rfl
abbrev Jj0 :Nat:=126
theorem JjR :tabT tabD 126=some (evFn 1000000 Qb):=by kernel_rfl
abbrev JhF :Nat:=127
theorem JfC :tabT tabD 127=some (evFn 1000000 Ya):=by kernel_rfl
abbrev qb :Nat:=128
theorem JfD :tabT tabD 128=some (evFn 1000000 Yb):=by kernel_rfl
abbrev JfE :Nat:=129
theorem Jfc :tabT tabD 129=some (evFn 1000000 KV):=by kernel_rfl
abbrev Jm6 :Nat:=131
theorem Jmo :tabT tabD 131=some (evFn 1000000 QP):=by kernel_rfl
abbrev Jbk :Nat:=133
theorem JaA :tabT tabD 133=some (evFn 1000000 KQ):=by kernel_rfl
abbrev Jch :Nat:=134
theorem Jbl :tabT tabD 134=some (evFn 1000000 K7):=by kernel_rfl
abbrev Jmp :Nat:=135
theorem JkT :tabT tabD 135=some (evFn 1000000 QG):=by kernel_rfl
abbrev JhI :Nat:=137
theorem JhG :tabT tabD 137=some (evFn 1000000 KL):=by kernel_rfl
abbrev Jm7 :Nat:=143
theorem Jmq :tabT tabD 143=some (evFn 1000000 QQ):=by kernel_rfl
theorem mixed :Tryz.prog.follows .mixedOrders=true:=by kernel_rfl
theorem JtC {ρ:Nat->Value}{W:World}(hρ:∀i,(ρ i).oneCell'=true)(hm:hasM 0 W):tabD.all fun i e=>BodyOK Tryz.prog ρ ⟨W.heap.size,W⟩ i e.b:=
 ⟨⟨⟨⟨⟨⟨Jq Jtw Tryz.func4 (by decide) hρ mixed,⟨Jq Jtx Tryz.func5 (by decide) hρ mixed,Jq JtA Tryz.func6 (by decide) hρ mixed⟩⟩,⟨⟨Jq JtB Tryz.func7 (by decide) hρ mixed,Jq Jty Tryz.func8 (by decide) hρ mixed⟩,⟨Jq Jtz Tryz.func9 (by decide) hρ mixed,Jq JrR Tryz.func10 (by decide) hρ mixed⟩⟩⟩,⟨⟨Jq JrQ Tryz.func11 (by decide) hρ mixed,⟨Jq JqT Tryz.func12 (by decide) hρ mixed,Jq Jrc Tryz.func13 (by decide) hρ mixed⟩⟩,⟨⟨Jq Jrs Tryz.func14 (by decide) hρ mixed,Jq Jru Tryz.func15 (by decide) hρ mixed⟩,⟨Jq JrS Tryz.func17 (by decide) hρ mixed,Jq JqU Tryz.func18 (by decide) hρ mixed⟩⟩⟩⟩,⟨⟨⟨Jq Jq9 Tryz.func19 (by decide) hρ mixed,⟨Jq Jq3 Tryz.func20 (by decide) hρ mixed,Jq Jrd Tryz.func21 (by decide) hρ mixed⟩⟩,⟨⟨Jq Jrq Tryz.func22 (by decide) hρ mixed,Jq Jrt Tryz.func23 (by decide) hρ mixed⟩,⟨Jq Jrv Tryz.func24 (by decide) hρ mixed,Jq Jrz Tryz.func25 (by decide) hρ mixed⟩⟩⟩,⟨⟨⟨Jq JrA Tryz.func26 (by decide) hρ mixed,Jq JrB Tryz.func27 (by decide) hρ mixed⟩,⟨Jq JrC Tryz.func28 (by decide) hρ mixed,Jq JrI Tryz.func29 (by decide) hρ mixed⟩⟩,⟨⟨Jq JrG Tryz.func30 (by decide) hρ mixed,Jq JrJ Tryz.func31 (by decide) hρ mixed⟩,⟨Jq JrK Tryz.func32 (by decide) hρ mixed,Jq JrO Tryz.func33 (by decide) hρ mixed⟩⟩⟩⟩⟩,⟨⟨⟨⟨Jq JrP Tryz.func34 (by decide) hρ mixed,⟨Jq JrT Tryz.func35 (by decide) hρ mixed,Jq Jr1 Tryz.func36 (by decide) hρ mixed⟩⟩,⟨⟨Jq Jsa Tryz.func37 (by decide) hρ mixed,Jq JqV Tryz.func38 (by decide) hρ mixed⟩,⟨Jq JqX Tryz.func39 (by decide) hρ mixed,Jq JqY Tryz.func40 (by decide) hρ mixed⟩⟩⟩,⟨⟨⟨Jq Jq1 Tryz.func41 (by decide) hρ mixed,Jq Jq5 Tryz.func43 (by decide) hρ mixed⟩,⟨Jq Jq7 Tryz.func44 (by decide) hρ mixed,Jq Jq8 Tryz.func45 (by decide) hρ mixed⟩⟩,⟨⟨Jq Jra Tryz.func46 (by decide) hρ mixed,Jq Jre Tryz.func47 (by decide) hρ mixed⟩,⟨Jq Jrh Tryz.func48 (by decide) hρ mixed,Jq Jri Tryz.func49 (by decide) hρ mixed⟩⟩⟩⟩,⟨⟨⟨Jq Jrk Tryz.func50 (by decide) hρ mixed,⟨Jq Jrl Tryz.func51 (by decide) hρ mixed,Jq Jrn Tryz.func52 (by decide) hρ mixed⟩⟩,⟨⟨Jq Jro Tryz.func53 (by decide) hρ mixed,Jq Jrr Tryz.func54 (by decide) hρ mixed⟩,⟨Jq Jrw Tryz.func55 (by decide) hρ mixed,Jq Jrx Tryz.func56 (by decide) hρ mixed⟩⟩⟩,⟨⟨⟨Jq JrD Tryz.func57 (by decide) hρ mixed,Jq JrH Tryz.func58 (by decide) hρ mixed⟩,⟨Jq JrL Tryz.func59 (by decide) hρ mixed,Jq JrM Tryz.func60 (by decide) hρ mixed⟩⟩,⟨⟨Jq JrN Tryz.func61 (by decide) hρ mixed,Jq JrU Tryz.func63 (by decide) hρ mixed⟩,⟨Jq JrV Tryz.func64 (by decide) hρ mixed,Jq Jr2 Tryz.func65 (by decide) hρ mixed⟩⟩⟩⟩⟩⟩,⟨⟨⟨⟨⟨Jq Jr3 Tryz.func67 (by decide) hρ mixed,⟨Jq Jr6 Tryz.func68 (by decide) hρ mixed,Jq Jr7 Tryz.func69 (by decide) hρ mixed⟩⟩,⟨⟨Jq Jr8 Tryz.func70 (by decide) hρ mixed,Jq Jr9 Tryz.func71 (by decide) hρ mixed⟩,⟨Jq JqW Tryz.func72 (by decide) hρ mixed,Jh3 Tryz.func73 (by kernel_rfl) (by decide) hm fun s sub m w hs hm=>Tryz.strings_Contains s sub m w hs hm⟩⟩⟩,⟨⟨Jq JqZ Tryz.func74 (by decide) hρ mixed,⟨Jq Jq0 Tryz.func75 (by decide) hρ mixed,Jq Jq2 Tryz.func76 (by decide) hρ mixed⟩⟩,⟨⟨Jq Jq4 Tryz.func77 (by decide) hρ mixed,Jq Jq6 Tryz.func79 (by decide) hρ mixed⟩,⟨Jq Jrb Tryz.func80 (by decide) hρ mixed,Jq Jrf Tryz.func81 (by decide) hρ mixed⟩⟩⟩⟩,⟨⟨⟨Jq Jrg Tryz.func82 (by decide) hρ mixed,⟨Jq Jrj Tryz.func83 (by decide) hρ mixed,Jq Jrm Tryz.func84 (by decide) hρ mixed⟩⟩,⟨⟨Jq Jrp Tryz.func85 (by decide) hρ mixed,Jq Jry Tryz.func86 (by decide) hρ mixed⟩,⟨Jq JrE Tryz.func88 (by decide) hρ mixed,Jq JrF Tryz.func89 (by decide) hρ mixed⟩⟩⟩,⟨⟨⟨Jq JrX Tryz.func90 (by decide) hρ mixed,Jq JrW Tryz.func91 (by decide) hρ mixed⟩,⟨Jq Jr0 Tryz.func92 (by decide) hρ mixed,Jq JrY Tryz.func93 (by decide) hρ mixed⟩⟩,⟨⟨Jq JrZ Tryz.func94 (by decide) hρ mixed,Jq Jr4 Tryz.func98 (by decide) hρ mixed⟩,⟨Jq Jr5 Tryz.func99 (by decide) hρ mixed,Jq JpM Tryz.func100 (by decide) hρ mixed⟩⟩⟩⟩⟩,⟨⟨⟨⟨Jq JpL Tryz.func101 (by decide) hρ mixed,⟨Jq JpO Tryz.func102 (by decide) hρ mixed,Jq JpD Tryz.func103 (by decide) hρ mixed⟩⟩,⟨⟨Jq JpP Tryz.func104 (by decide) hρ mixed,Jq JpR Tryz.func105 (by decide) hρ mixed⟩,⟨Jq Jpo Tryz.func106 (by decide) hρ mixed,Jq Jpp Tryz.func107 (by decide) hρ mixed⟩⟩⟩,⟨⟨⟨Jq Jpt Tryz.func111 (by decide) hρ mixed,Jq Jpu Tryz.func112 (by decide) hρ mixed⟩,⟨Jq Jpv Tryz.func113 (by decide) hρ mixed,Jq Jpw Tryz.func114 (by decide) hρ mixed⟩⟩,⟨⟨Jq Jpx Tryz.func115 (by decide) hρ mixed,Jq Jpy Tryz.func116 (by decide) hρ mixed⟩,⟨Jq Jpz Tryz.func117 (by decide) hρ mixed,Jq JpA Tryz.func118 (by decide) hρ mixed⟩⟩⟩⟩,⟨⟨⟨Jq JpB Tryz.func119 (by decide) hρ mixed,⟨Jq JpE Tryz.func121 (by decide) hρ mixed,JoR Tryz.func122 (by kernel_rfl) (by decide) JjD⟩⟩,⟨⟨Jq JpJ Tryz.func123 (by decide) hρ mixed,Jq JpN Tryz.func125 (by decide) hρ mixed⟩,⟨Jq JpQ Tryz.func126 (by decide) hρ mixed,Jq Jpq Tryz.func127 (by decide) hρ mixed⟩⟩⟩,⟨⟨⟨Jq Jpr Tryz.func128 (by decide) hρ mixed,Jq Jps Tryz.func129 (by decide) hρ mixed⟩,⟨Jq JpC Tryz.func131 (by decide) hρ mixed,Jq JpF Tryz.func133 (by decide) hρ mixed⟩⟩,⟨⟨Jq JpG Tryz.func134 (by decide) hρ mixed,Jq JpH Tryz.func135 (by decide) hρ mixed⟩,⟨Jq JpK Tryz.func137 (by decide) hρ mixed,Jq JpI Tryz.func143 (by decide) hρ mixed⟩⟩⟩⟩⟩⟩⟩
end Go.Proofs.YtcgiahehkobpcaaGreat
