/- Code. -/
import Derived.Test.YtjacnbabnpgpaaaDoorZA
namespace Go.Proofs.YtjacnbabnpgpaaaDoor
noncomputable section
open Go Go.Abs Go.Abs.T
/-- foreman/foremanlaw29.BoundGreatest -/
def a3 : AFn := ⟨104, [.tmp 4],
 (.seq (.reg [o 4 (.mv (.c (.d (.b false))))])
 (.seq (.reg [m 15 0, o 16 (b .rem (t 15) (.c (.d (.i .u8 26)))), o 17 (b .add (.c (.d (.i .u8 97))) (t 16)), m 5 17])
 (.seq (.reg [o 18 (.mksl 5 1 1 [(.d (.i .u8 0))] (k 400) (k 400)), m 6 18])
 (.seq (.seq (.reg [m 19 6, o 20 (.len 1 (t 19)), o 21 (.mv (k 0))])
 (.blk 0 (.loop (.seq (.reg [o 22 (b .lss (t 21) (t 20))])
 (.seq (.cond (t 22)
 .skip
 (.exit 0))
 (.seq (.blk 1 (.seq (.reg [m 23 21, m 7 23])
 (.reg [m 24 6, m 25 7, m 26 5, o 27 (.iaS 1 (t 24) (t 25)), u (.store 1 (t 27) (t 26))])))
 (.reg [o 28 (b .add (t 21) (k 1)), m 21 28])))))))
 (.seq (.reg [m 29 6, o 30 (.slSl 1 (t 29) none (some (k 100)) none), o 31 (.b2s (t 30)), o 32 (.build [(.d (.i .u8 0)), (.d (.i .i64 0)), (.d (.s [])), .nilsl] [(0, 1, (.c (.d (.i .u8 1)))), (2, 1, (t 31))]), o 8 (.alloc 25 [(.d (.i .u8 0)), (.d (.i .i64 0)), (.d (.s [])), .nilsl]), u (.store 4 (t 8) (t 32))])
 (.seq (.reg [o 33 (.build [(.d (.i .u8 0)), (.d (.i .i64 0)), (.d (.s [])), .nilsl] [(0, 1, (.c (.d (.i .u8 2))))]), o 9 (.alloc 25 [(.d (.i .u8 0)), (.d (.i .i64 0)), (.d (.s [])), .nilsl]), u (.store 4 (t 9) (t 33))])
 (.seq (.seq (.reg [o 34 (.mv (k 0))])
 (.blk 2 (.loop (.seq (.reg [o 35 (b .lss (t 34) (k 5))])
 (.seq (.cond (t 35)
 .skip
 (.exit 2))
 (.seq (.blk 3 (.seq (.reg [o 36 (.build [(.d (.i .u8 0)), (.d (.i .i64 0)), (.d (.s [])), .nilsl] [(0, 1, (.c (.d (.i .u8 2))))]), o 10 (.alloc 25 [(.d (.i .u8 0)), (.d (.i .i64 0)), (.d (.s [])), .nilsl]), u (.store 4 (t 10) (t 36))])
 (.seq (.seq (.reg [o 37 (.mv (k 0))])
 (.blk 4 (.loop (.seq (.reg [o 38 (b .lss (t 37) (k 38))])
 (.seq (.cond (t 38)
 .skip
 (.exit 4))
 (.seq (.blk 5 (.reg [o 39 (.fadd 3 (t 10)), l 40 39, o 41 (.load true 4 (t 8)), o 42 (.bsl 25 4 1 [(.d (.i .u8 0)), (.d (.i .i64 0)), (.d (.s [])), .nilsl] [(0, 4, (t 41))]), o 43 (.app 25 4 56 false (t 40) (t 42)), o 44 (.fadd 3 (t 10)), u (.store 1 (t 44) (t 43))]))
 (.reg [o 45 (b .add (t 37) (k 1)), m 37 45])))))))
 (.reg [o 46 (.fadd 3 (t 9)), l 47 46, o 48 (.load true 4 (t 10)), o 49 (.bsl 25 4 1 [(.d (.i .u8 0)), (.d (.i .i64 0)), (.d (.s [])), .nilsl] [(0, 4, (t 48))]), o 50 (.app 25 4 56 false (t 47) (t 49)), o 51 (.fadd 3 (t 9)), u (.store 1 (t 51) (t 50))]))))
 (.reg [o 52 (b .add (t 34) (k 1)), m 34 52])))))))
 (.seq (.dreg 1 [⟨m 53 6, 0, false, [], none⟩, ⟨o 54 (.slSl 1 (t 53) none (some (k 20)) none), 1, false, [], none⟩, ⟨o 55 (.b2s (t 54)), 2, false, [], none⟩, ⟨m 56 6, 3, false, [], none⟩, ⟨o 57 (.slSl 1 (t 56) none (some (k 20)) none), 4, false, [], none⟩, ⟨o 58 (.b2s (t 57)), 5, false, [], none⟩, ⟨o 59 (.build [(.d (.s [])), (.d (.i .u8 0)), .nilsl, (.d (.s [])), (.d (.i .i64 0)), (.d (.i .i64 0))] [(0, 1, (t 55)), (1, 1, (.c (.d (.i .u8 1)))), (3, 1, (t 58)), (4, 1, (k 40)), (5, 1, (k 400))]), 6, false, [], none⟩, ⟨o 11 (.alloc 28 [(.d (.s [])), (.d (.i .u8 0)), .nilsl, (.d (.s [])), (.d (.i .i64 0)), (.d (.i .i64 0))]), 7, false, [], (some 0)⟩, ⟨u (.store 6 (t 11) (t 59)), 8, true, [], none⟩])
 (.seq (.seq (.reg [o 60 (.mv (k 0))])
 (.blk 6 (.loop (.seq (.reg [o 61 (b .lss (t 60) (k 20))])
 (.seq (.cond (t 61)
 .skip
 (.exit 6))
 (.seq (.blk 7 (.reg [o 62 (.fadd 2 (t 11)), l 63 62, o 64 (.fadd 0 (t 11)), l 65 64, o 66 (.bsl 9 1 1 [(.d (.s []))] [(0, 1, (t 65))]), o 67 (.app 9 1 16 false (t 63) (t 66)), o 68 (.fadd 2 (t 11)), u (.store 1 (t 68) (t 67))]))
 (.reg [o 69 (b .add (t 60) (k 1)), m 60 69])))))))
 (.seq (.reg [m 70 6, o 71 (.b2s (t 70)), m 72 1, o 73 (.mx [(t 72), (k 1)]), o 74 (.load true 4 (t 9)), o 75 (.build [(.d (.i .u8 0)), (.d (.s [])), (.d (.i .i64 0)), (.d (.i .u8 0)), (.d (.i .i64 0)), (.d (.s [])), .nilsl, .nilsl, (.d (.i .i64 0))] [(0, 1, (.c (.d (.i .u8 3)))), (1, 1, (t 71)), (2, 1, (t 73)), (3, 4, (t 74))]), o 12 (.alloc 31 [(.d (.i .u8 0)), (.d (.s [])), (.d (.i .i64 0)), (.d (.i .u8 0)), (.d (.i .i64 0)), (.d (.s [])), .nilsl, .nilsl, (.d (.i .i64 0))]), u (.store 9 (t 12) (t 75))])
 (.seq (.seq (.reg [o 76 (.mv (k 0))])
 (.blk 8 (.loop (.seq (.reg [o 77 (b .lss (t 76) (k 40))])
 (.seq (.cond (t 77)
 .skip
 (.exit 8))
 (.seq (.blk 9 (.reg [o 78 (.fadd 7 (t 12)), l 79 78, o 80 (.load true 6 (t 11)), o 81 (.bsl 28 6 1 [(.d (.s [])), (.d (.i .u8 0)), .nilsl, (.d (.s [])), (.d (.i .i64 0)), (.d (.i .i64 0))] [(0, 6, (t 80))]), o 82 (.app 28 6 80 false (t 79) (t 81)), o 83 (.fadd 7 (t 12)), u (.store 1 (t 83) (t 82))]))
 (.reg [o 84 (b .add (t 76) (k 1)), m 76 84])))))))
 (.seq (.reg [o 86 (.load true 9 (t 12)), o 87 (.callf 4 [(t 86)]), m 85 87, o 88 (.extr (t 85) 0), o 89 (.extr (t 85) 1), m 13 88, m 14 89])
 (.seq (.reg [m 90 14, o 91 (b .eql (t 90) (k 0)), m 92 91, mg 93 13 92 true, og 94 (b .gtr (t 93) (k 38000)) 92 true, o 95 (.pick (t 92) (t 94) (.c (.d (.b false)))), m 96 95, mg 97 13 96 true, og 98 (.callf 5 []) 96 true, og 99 (b .leq (t 97) (t 98)) 96 true, o 100 (.pick (t 96) (t 99) (.c (.d (.b false)))), m 101 100, og 102 (.callf 6 []) 101 true, o 103 (.pick (t 101) (t 102) (.c (.d (.b false)))), m 4 103])
 .ret))))))))))))), false⟩
/-- foreman/bound.Long -/
def a4 : AFn := ⟨19, [.tmp 2, .tmp 3],
 (.seq (.reg [o 1 (.box 31 (t 0)), o 2 (.mv (k 0)), o 3 (.mv (k 0))])
 (.seq (.reg [o 7 (.load true 9 (t 1)), o 8 (.build [(.d (.i .u8 0)), (.d (.i .u64 0)), (.d (.i .u8 0)), (.d (.s [])), (.d (.i .i64 0)), (.d (.i .u8 0)), (.d (.i .i64 0)), (.d (.s [])), .nilsl, .nilsl, (.d (.i .i64 0)), (.d (.i .i64 0)), (.d (.i .i64 0)), (.d (.i .i64 0)), (.d (.i .i64 0)), (.d (.i .i64 0)), (.d (.i .i64 0)), .nilsl, (.d (.i .i64 0))] [(0, 1, (.c (.d (.i .u8 1)))), (2, 9, (t 7))]), o 9 (.callf 7 [(t 8)]), m 6 9, o 10 (.extr (t 6) 0), o 11 (.extr (t 6) 1), m 4 10, m 5 11])
 (.seq (.seq (.reg [m 12 5, o 13 (b .neq (t 12) (k 0))])
 (.cond (t 13)
 (.seq (.reg [m 14 5, o 2 (.mv (k 0)), m 3 14])
 .ret)
 .skip))
 (.seq (.reg [m 15 4, o 16 (.callf 8 [(t 15)]), o 17 (.extr (t 16) 0), o 18 (.extr (t 16) 1), m 2 17, m 3 18])
 .ret)))), false⟩
/-- foreman/bound.MostLong -/
def a5 : AFn := ⟨1, [.tmp 0],
 (.seq (.reg [o 0 (.mv (k 0))])
 (.seq (.reg [o 0 (.mv (k 39804))])
 .ret)), false⟩
/-- foreman/foremanlaw29.awake -/
def a6 : AFn := ⟨53, [.tmp 0],
 (.seq (.reg [o 0 (.mv (.c (.d (.b false))))])
 (.seq (.reg [o 7 (.build [(.d (.s [])), (.d (.s [])), (.d (.i .u8 0)), (.d (.i .i64 0)), (.d (.i .i64 0)), (.d (.i .i64 0)), .nilsl, (.d (.i .i64 0)), (.d (.i .i64 0)), (.d (.i .u8 0)), (.d (.i .i64 0)), (.d (.i .i64 0)), (.d (.i .u8 0)), (.d (.i .i64 0)), (.d (.s [])), .nilsl] [(8, 1, (k 2)), (10, 1, (k 1))]), o 1 (.alloc 52 [(.d (.s [])), (.d (.s [])), (.d (.i .u8 0)), (.d (.i .i64 0)), (.d (.i .i64 0)), (.d (.i .i64 0)), .nilsl, (.d (.i .i64 0)), (.d (.i .i64 0)), (.d (.i .u8 0)), (.d (.i .i64 0)), (.d (.i .i64 0)), (.d (.i .u8 0)), (.d (.i .i64 0)), (.d (.s [])), .nilsl]), u (.store 16 (t 1) (t 7))])
 (.seq (.dreg 2 [⟨o 8 (.load true 16 (t 1)), 0, false, [], none⟩, ⟨o 2 (.alloc 52 [(.d (.s [])), (.d (.s [])), (.d (.i .u8 0)), (.d (.i .i64 0)), (.d (.i .i64 0)), (.d (.i .i64 0)), .nilsl, (.d (.i .i64 0)), (.d (.i .i64 0)), (.d (.i .u8 0)), (.d (.i .i64 0)), (.d (.i .i64 0)), (.d (.i .u8 0)), (.d (.i .i64 0)), (.d (.s [])), .nilsl]), 2, false, [], (some 0)⟩, ⟨o 3 (.alloc 52 [(.d (.s [])), (.d (.s [])), (.d (.i .u8 0)), (.d (.i .i64 0)), (.d (.i .i64 0)), (.d (.i .i64 0)), .nilsl, (.d (.i .i64 0)), (.d (.i .i64 0)), (.d (.i .u8 0)), (.d (.i .i64 0)), (.d (.i .i64 0)), (.d (.i .u8 0)), (.d (.i .i64 0)), (.d (.s [])), .nilsl]), 3, false, [], (some 1)⟩, ⟨u (.store 16 (t 2) (t 8)), 4, true, [], none⟩, ⟨o 9 (.load true 16 (t 1)), 1, false, [], none⟩, ⟨u (.store 16 (t 3) (t 9)), 5, true, [], none⟩])
 (.seq (.reg [o 10 (.fadd 9 (t 2)), u (.store 1 (t 10) (.c (.d (.i .u8 2)))), o 11 (.fadd 9 (t 3)), u (.store 1 (t 11) (.c (.d (.i .u8 3))))])
 (.seq (.reg [o 12 (.build [(.d (.s [])), (.d (.s [])), (.d (.i .u8 0)), (.d (.i .i64 0)), (.d (.i .i64 0)), (.d (.i .i64 0)), .nilsl, (.d (.i .i64 0)), (.d (.i .i64 0)), (.d (.i .u8 0)), (.d (.i .i64 0)), (.d (.i .i64 0)), (.d (.i .u8 0)), (.d (.i .i64 0)), (.d (.s [])), .nilsl] [(2, 1, (.c (.d (.i .u8 1)))), (7, 1, (k 3)), (8, 1, (k 1))]), o 4 (.alloc 52 [(.d (.s [])), (.d (.s [])), (.d (.i .u8 0)), (.d (.i .i64 0)), (.d (.i .i64 0)), (.d (.i .i64 0)), .nilsl, (.d (.i .i64 0)), (.d (.i .i64 0)), (.d (.i .u8 0)), (.d (.i .i64 0)), (.d (.i .i64 0)), (.d (.i .u8 0)), (.d (.i .i64 0)), (.d (.s [])), .nilsl]), u (.store 16 (t 4) (t 12))])
 (.seq (.reg [o 14 (.build [(.d (.i .u8 0)), (.d (.s [])), (.d (.i .i64 0)), (.d (.i .u8 0)), (.d (.i .i64 0)), (.d (.s [])), .nilsl, .nilsl, (.d (.i .i64 0))] [(0, 1, (.c (.d (.i .u8 5)))), (1, 1, (.c (.d (.s [120]))))]), o 15 (.callf 4 [(t 14)]), m 13 15, o 16 (.extr (t 13) 0), o 17 (.extr (t 13) 1), m 5 16, m 6 17])
 (.seq (.reg [o 18 (.load true 16 (t 1)), o 19 (.callf 9 [(t 18), (k 1)]), o 20 (b .eql (t 19) (k 10)), m 21 20, og 22 (.load true 16 (t 2)) 21 true, og 23 (.callf 9 [(t 22), (k 1)]) 21 true, og 24 (b .eql (t 23) (k 9)) 21 true, o 25 (.pick (t 21) (t 24) (.c (.d (.b false)))), m 26 25, og 27 (.load true 16 (t 3)) 26 true, og 28 (.callf 9 [(t 27), (k 1)]) 26 true, og 29 (b .eql (t 28) (k 0)) 26 true, o 30 (.pick (t 26) (t 29) (.c (.d (.b false)))), m 31 30, og 32 (.load true 16 (t 4)) 31 true, og 33 (.callf 9 [(t 32), (k 0)]) 31 true, og 34 (b .eql (t 33) (k 12)) 31 true, o 35 (.pick (t 31) (t 34) (.c (.d (.b false)))), m 36 35, og 37 (.build [(.d (.i .i64 0)), (.d (.i .i64 0)), (.d (.i .i64 0)), (.d (.i .i64 0)), (.d (.i .i64 0))] [(0, 1, (k 10)), (4, 1, (k 2)), (3, 1, (k 1))]) 36 true, og 38 (.callf 10 [(t 37)]) 36 true, og 39 (b .eql (t 38) (k 80)) 36 true, o 40 (.pick (t 36) (t 39) (.c (.d (.b false)))), m 41 40, mg 42 5 41 true, og 43 (b .eql (t 42) (k 32)) 41 true, o 44 (.pick (t 41) (t 43) (.c (.d (.b false)))), m 45 44, mg 46 6 45 true, og 47 (b .eql (t 46) (k 0)) 45 true, o 48 (.pick (t 45) (t 47) (.c (.d (.b false)))), m 49 48, og 50 (.callf 5 []) 49 true, og 51 (b .eql (t 50) (k 39804)) 49 true, o 52 (.pick (t 49) (t 51) (.c (.d (.b false)))), m 0 52])
 .ret))))))), false⟩
/-- foreman/replay.Rows -/
def a7 : AFn := ⟨23, [.tmp 2, .tmp 3],
 (.seq (.reg [o 1 (.box 48 (t 0)), o 2 (.mv (.c .nilsl)), o 3 (.mv (k 0))])
 (.seq (.reg [o 8 (.load true 19 (t 1)), o 9 (.callf 11 [(t 8)]), m 7 9, o 10 (.extr (t 7) 0), o 11 (.extr (t 7) 1), m 4 10, m 5 11])
 (.seq (.seq (.reg [m 12 5, o 13 (b .neq (t 12) (k 0))])
 (.cond (t 13)
 (.seq (.reg [o 2 (.mv (.c .nilsl)), o 3 (.mv (k 2))])
 .ret)
 .skip))
 (.seq (.reg [o 14 (.load true 19 (t 1)), o 15 (.callf 13 [(t 14)]), m 16 4, o 17 (.app 5 1 1 false (t 15) (t 16)), o 18 (.callf 12 [(t 17)]), m 6 18])
 (.seq (.seq (.reg [m 19 6, o 20 (.len 1 (t 19)), o 21 (b .gtr (t 20) (k 1024))])
 (.cond (t 21)
 (.seq (.reg [o 2 (.mv (.c .nilsl)), o 3 (.mv (k 31))])
 .ret)
 .skip))
 (.seq (.reg [m 22 6, m 2 22, o 3 (.mv (k 0))])
 .ret)))))), false⟩
/-- foreman/batch.Long -/
def a8 : AFn := ⟨27, [.tmp 2, .tmp 3],
 (.seq (.reg [o 2 (.mv (k 0)), o 3 (.mv (k 0))])
 (.seq (.seq (.reg [m 8 0, o 9 (.callf 14 [(t 8)]), m 4 9])
 (.seq (.reg [m 10 4, o 11 (b .neq (t 10) (k 0))])
 (.cond (t 11)
 (.seq (.reg [m 12 4, o 2 (.mv (k 0)), m 3 12])
 .ret)
 .skip)))
 (.seq (.reg [o 13 (.callf 15 [(k 2)]), m 5 13])
 (.seq (.seq (.reg [m 14 0, o 15 (.len 1 (t 14)), o 16 (.mv (k 0))])
 (.blk 0 (.loop (.seq (.reg [o 17 (b .lss (t 16) (t 15))])
 (.seq (.cond (t 17)
 .skip
 (.exit 0))
 (.seq (.blk 1 (.seq (.reg [o 18 (.iaS 1 (t 14) (t 16)), l 19 18, m 7 19])
 (.reg [m 20 5, m 21 7, o 22 (.len 1 (t 21)), o 23 (.callf 15 [(t 22)]), o 24 (b .add (t 20) (t 23)), m 5 24])))
 (.reg [o 25 (b .add (t 16) (k 1)), m 16 25])))))))
 (.seq (.reg [m 26 5, m 2 26, o 3 (.mv (k 0))])
 .ret))))), false⟩
/-- foreman/bound.Work -/
def a9 : AFn := ⟨49, [.tmp 4],
 (.seq (.reg [o 2 (.box 52 (t 0)), o 4 (.mv (k 0))])
 (.seq (.reg [m 9 1, o 10 (b .add (t 9) (k 1)), o 11 (b .mul (k 2) (t 10)), m 5 11])
 (.seq (.seq (.reg [o 12 (.fadd 2 (t 2)), l 13 12, o 14 (b .eql (t 13) (.c (.d (.i .u8 1))))])
 (.cond (t 14)
 (.seq (.reg [m 15 5, o 16 (.fadd 7 (t 2)), l 17 16, o 18 (b .mul (t 15) (t 17)), o 19 (.fadd 8 (t 2)), l 20 19, o 21 (b .add (k 1) (t 20)), o 22 (b .mul (t 18) (t 21)), o 23 (.build [(.d (.i .i64 0)), (.d (.i .i64 0)), (.d (.i .i64 0)), (.d (.i .i64 0)), (.d (.i .i64 0)), (.d (.i .i64 0)), (.d (.i .i64 0))] [(0, 1, (t 22))]), o 6 (.alloc 61 [(.d (.i .i64 0)), (.d (.i .i64 0)), (.d (.i .i64 0)), (.d (.i .i64 0)), (.d (.i .i64 0)), (.d (.i .i64 0)), (.d (.i .i64 0))]), u (.store 7 (t 6) (t 23))])
 (.seq (.reg [o 24 (.fadd 9 (t 2)), l 25 24, o 26 (.mn [(t 25), (.c (.d (.i .u8 6)))]), o 27 (.iaA 7 1 (t 6) (t 26)), l 28 27, m 4 28])
 .ret))
 .skip))
 (.seq (.reg [m 29 5, o 30 (.fadd 10 (t 2)), l 31 30, o 32 (b .mul (k 2) (t 31)), o 33 (b .sub (t 29) (t 32)), m 34 5, o 35 (.fadd 8 (t 2)), l 36 35, o 37 (b .mul (t 34) (t 36)), o 38 (b .add (t 33) (t 37)), m 7 38])
 (.seq (.reg [m 39 7, m 40 7, m 41 7, o 42 (b .sub (t 41) (k 1)), o 43 (.build [(.d (.i .i64 0)), (.d (.i .i64 0)), (.d (.i .i64 0)), (.d (.i .i64 0)), (.d (.i .i64 0)), (.d (.i .i64 0)), (.d (.i .i64 0))] [(0, 1, (t 39)), (1, 1, (t 40)), (2, 1, (t 42))]), o 8 (.alloc 61 [(.d (.i .i64 0)), (.d (.i .i64 0)), (.d (.i .i64 0)), (.d (.i .i64 0)), (.d (.i .i64 0)), (.d (.i .i64 0)), (.d (.i .i64 0))]), u (.store 7 (t 8) (t 43))])
 (.seq (.reg [o 44 (.fadd 9 (t 2)), l 45 44, o 46 (.mn [(t 45), (.c (.d (.i .u8 6)))]), o 47 (.iaA 7 1 (t 8) (t 46)), l 48 47, m 4 48])
 .ret)))))), false⟩
/-- foreman/bound.Most -/
def a10 : AFn := ⟨13, [.tmp 2],
 (.seq (.reg [o 1 (.box 43 (t 0)), o 2 (.mv (k 0))])
 (.seq (.reg [o 3 (.fadd 3 (t 1)), l 4 3, o 5 (b .add (t 4) (k 1)), o 6 (b .mul (k 2) (t 5)), o 7 (.fadd 0 (t 1)), l 8 7, o 9 (b .mul (t 6) (t 8)), o 10 (.fadd 4 (t 1)), l 11 10, o 12 (b .mul (t 9) (t 11)), m 2 12])
 .ret)), false⟩
/-- foreman/replay.rest -/
def a11 : AFn := ⟨20, [.tmp 2, .tmp 3],
 (.seq (.reg [o 1 (.box 48 (t 0)), o 2 (.mv (.c .nilsl)), o 3 (.mv (k 0))])
 (.seq (.seq (.reg [o 4 (.fadd 0 (t 1)), l 5 4])
 (.blk 0 (.seq (.reg [o 7 (b .eql (t 5) (.c (.d (.i .u8 1)))), m 6 7])
 (.cond (t 6)
 (.seq (.reg [o 8 (.fadd 2 (t 1)), o 9 (.load true 9 (t 8)), o 10 (.callf 16 [(t 9)]), o 11 (.extr (t 10) 0), o 12 (.extr (t 10) 1), m 2 11, m 3 12])
 .ret)
 (.seq (.reg [o 14 (b .eql (t 5) (.c (.d (.i .u8 2)))), m 13 14])
 (.cond (t 13)
 (.seq (.reg [o 15 (.fadd 11 (t 1)), o 16 (.load true 8 (t 15)), o 17 (.callf 17 [(t 16)]), o 18 (.extr (t 17) 0), o 19 (.extr (t 17) 1), m 2 18, m 3 19])
 .ret)
 .skip))))))
 (.seq (.reg [o 2 (.mv (.c .nilsl)), o 3 (.mv (k 2))])
 .ret))), false⟩
/-- foreman/batch.Cut -/
def a12 : AFn := ⟨18, [.tmp 2],
 (.seq (.reg [o 2 (.mv (.c .nilsl))])
 (.seq (.reg [o 3 (.alloc 38 [.nilsl])])
 (.seq (.seq (.reg [m 5 0, o 6 (.clone 19 5 1 1 false (t 5)), o 7 (.callf 18 [(t 6), (k 4096)])])
 (.blk 0 (.rfun (t 7) [8] (.reg [m 4 8]) (.blk 1 (.reg [l 9 3, m 10 4, o 11 (.bsl 22 1 1 [.nilsl] [(0, 1, (t 10))]), o 12 (.app 22 1 24 false (t 9) (t 11)), u (.store 1 (t 3) (t 12))])))))
 (.seq (.seq (.reg [l 13 3, o 14 (.len 1 (t 13)), o 15 (b .eql (t 14) (k 0))])
 (.cond (t 15)
 (.seq (.reg [o 16 (.bsl 22 1 1 [.nilsl] [(0, 1, (.c .nilsl))]), m 2 16])
 .ret)
 .skip))
 (.seq (.reg [l 17 3, m 2 17])
 .ret))))), false⟩
/-- foreman/replay.ahead -/
def a13 : AFn := ⟨22, [.tmp 2],
 (.seq (.reg [o 1 (.box 48 (t 0)), o 2 (.mv (.c .nilsl))])
 (.seq (.reg [o 5 (.fadd 0 (t 1)), l 6 5, o 7 (.bsl 5 1 1 [(.d (.i .u8 0))] [(0, 1, (t 6))]), m 3 7])
 (.seq (.seq (.reg [o 8 (.mv (k 0))])
 (.blk 0 (.loop (.seq (.reg [o 9 (b .lss (t 8) (k 8))])
 (.seq (.cond (t 9)
 .skip
 (.exit 0))
 (.seq (.blk 1 (.seq (.reg [m 10 8, m 4 10])
 (.reg [m 11 3, o 12 (.fadd 1 (t 1)), l 13 12, m 14 4, o 15 (b .mul (k 8) (t 14)), o 16 (b .shr (t 13) (t 15)), o 17 (.cvi .u8 (t 16)), o 18 (.bsl 5 1 1 [(.d (.i .u8 0))] [(0, 1, (t 17))]), o 19 (.app 5 1 1 false (t 11) (t 18)), m 3 19])))
 (.reg [o 20 (b .add (t 8) (k 1)), m 8 20])))))))
 (.seq (.reg [m 21 3, m 2 21])
 .ret)))), false⟩
/-- foreman/batch.wrong -/
def a14 : AFn := ⟨17, [.tmp 2],
 (.seq (.reg [o 2 (.mv (k 0))])
 (.seq (.reg [o 3 (.mv (.c (.d (.fn (.func 20) [] []))))])
 (.seq (.blk 0 (.seq (.reg [m 5 0, o 6 (.len 1 (t 5)), o 7 (b .eql (t 6) (k 0)), m 8 7, mg 9 0 8 false, og 10 (.len 1 (t 9)) 8 false, og 11 (b .gtr (t 10) (k 1024)) 8 false, o 12 (.pick (t 8) (.c (.d (.b true))) (t 11)), m 4 12])
 (.cond (t 4)
 (.seq (.reg [o 2 (.mv (k 34))])
 .ret)
 (.seq (.reg [m 14 0, m 15 3, o 16 (.callf 21 [(t 14), (t 15)]), m 13 16])
 (.cond (t 13)
 (.seq (.reg [o 2 (.mv (k 31))])
 .ret)
 .skip)))))
 (.seq (.reg [o 2 (.mv (k 0))])
 .ret)))), false⟩
/-- foreman/rec.Long -/
def a15 : AFn := ⟨11, [.tmp 2],
 (.seq (.reg [o 2 (.mv (k 0))])
 (.seq (.seq (.reg [m 3 0, o 4 (b .lss (t 3) (k 0)), m 5 4, mg 6 0 5 false, og 7 (b .gtr (t 6) (k 4096)) 5 false, o 8 (.pick (t 5) (.c (.d (.b true))) (t 7))])
 (.cond (t 8)
 (.seq (.reg [o 2 (.mv (k 0))])
 .ret)
 .skip))
 (.seq (.reg [m 9 0, o 10 (b .add (k 9) (t 9)), m 2 10])
 .ret))), false⟩
/-- foreman/op.Bytes -/
def a16 : AFn := ⟨52, [.tmp 2, .tmp 3],
 (.seq (.reg [o 1 (.box 31 (t 0)), o 2 (.mv (.c .nilsl)), o 3 (.mv (k 0))])
 (.seq (.seq (.reg [o 6 (.load true 9 (t 1)), o 7 (.callf 22 [(t 6)]), o 8 (.un .not (t 7))])
 (.cond (t 8)
 (.seq (.reg [o 2 (.mv (.c .nilsl)), o 3 (.mv (k 2))])
 .ret)
 .skip))
 (.seq (.reg [o 9 (.fadd 0 (t 1)), l 10 9, o 11 (.callf 23 [(t 10)]), m 4 11])
 (.seq (.reg [o 12 (.fadd 0 (t 1)), l 13 12, o 14 (.cvi .i64 (t 13)), o 15 (.callf 24 [(.c .nilsl), (t 14)]), m 5 15])
 (.seq (.seq (.reg [m 16 4, o 17 (b .and (t 16) (.c (.d (.i .u8 4)))), o 18 (b .neq (t 17) (.c (.d (.i .u8 0))))])
 (.cond (t 18)
 (.reg [m 19 5, o 20 (.fadd 1 (t 1)), l 21 20, o 22 (.callf 25 [(t 19), (t 21)]), m 5 22])
 .skip))
 (.seq (.seq (.reg [m 23 4, o 24 (b .and (t 23) (.c (.d (.i .u8 8)))), o 25 (b .neq (t 24) (.c (.d (.i .u8 0))))])
 (.cond (t 25)
 (.reg [m 26 5, o 27 (.fadd 2 (t 1)), l 28 27, o 29 (.callf 24 [(t 26), (t 28)]), m 5 29])
 .skip))
 (.seq (.seq (.reg [m 30 4, o 31 (b .and (t 30) (.c (.d (.i .u8 16)))), o 32 (b .neq (t 31) (.c (.d (.i .u8 0))))])
 (.cond (t 32)
 (.reg [m 33 5, o 34 (.fadd 3 (t 1)), o 35 (.load true 4 (t 34)), o 36 (.callf 26 [(t 33), (t 35)]), m 5 36])
 .skip))
 (.seq (.seq (.reg [m 37 4, o 38 (b .and (t 37) (.c (.d (.i .u8 1)))), o 39 (b .neq (t 38) (.c (.d (.i .u8 0))))])
 (.cond (t 39)
 (.reg [m 40 5, o 41 (.fadd 7 (t 1)), l 42 41, o 43 (.callf 27 [(t 40), (t 42)]), m 5 43])
 .skip))
 (.seq (.seq (.reg [m 44 4, o 45 (b .and (t 44) (.c (.d (.i .u8 2)))), o 46 (b .neq (t 45) (.c (.d (.i .u8 0))))])
 (.cond (t 46)
 (.reg [m 47 5, o 48 (.fadd 8 (t 1)), l 49 48, o 50 (.callf 24 [(t 47), (t 49)]), m 5 50])
 .skip))
 (.seq (.reg [m 51 5, m 2 51, o 3 (.mv (k 0))])
 .ret)))))))))), false⟩
/-- foreman/snap.Bytes -/
def a17 : AFn := ⟨37, [.tmp 2, .tmp 3],
 (.seq (.reg [o 1 (.box 46 (t 0)), o 2 (.mv (.c .nilsl)), o 3 (.mv (k 0))])
 (.seq (.seq (.reg [o 8 (.load true 8 (t 1)), o 9 (.callf 28 [(t 8)]), o 10 (.un .not (t 9))])
 (.cond (t 10)
 (.seq (.reg [o 2 (.mv (.c .nilsl)), o 3 (.mv (k 2))])
 .ret)
 .skip))
 (.seq (.dreg 0 [⟨o 11 (.callf 30 [(t 1)]), 0, true, [], none⟩, ⟨o 12 (.callf 29 [(.c .nilsl), (t 11)]), 1, true, [], none⟩, ⟨o 13 (.fadd 7 (t 1)), 2, false, [], none⟩, ⟨l 14 13, 3, false, [], none⟩, ⟨o 15 (.callf 24 [(t 12), (t 14)]), 4, true, [], none⟩, ⟨o 16 (.fadd 6 (t 1)), 5, false, [], none⟩, ⟨l 17 16, 6, false, [], none⟩, ⟨o 18 (.len 1 (t 17)), 7, false, [], none⟩, ⟨o 19 (.callf 24 [(t 15), (t 18)]), 8, true, [], none⟩, ⟨m 4 19, 9, false, [8, 4, 1, 0], none⟩])
 (.seq (.reg [o 5 (.mv (.c .nilsl))])
 (.seq (.seq (.reg [o 20 (.fadd 6 (t 1)), l 21 20, o 22 (.len 1 (t 21)), o 23 (.mv (k 0))])
 (.blk 0 (.loop (.seq (.reg [o 24 (b .lss (t 23) (t 22))])
 (.seq (.cond (t 24)
 .skip
 (.exit 0))
 (.seq (.blk 1 (.seq (.reg [o 25 (.iaS 16 (t 21) (t 23)), o 26 (.load true 16 (t 25)), o 7 (.alloc 52 [(.d (.s [])), (.d (.s [])), (.d (.i .u8 0)), (.d (.i .i64 0)), (.d (.i .i64 0)), (.d (.i .i64 0)), .nilsl, (.d (.i .i64 0)), (.d (.i .i64 0)), (.d (.i .u8 0)), (.d (.i .i64 0)), (.d (.i .i64 0)), (.d (.i .u8 0)), (.d (.i .i64 0)), (.d (.s [])), .nilsl]), u (.store 16 (t 7) (t 26))])
 (.reg [m 27 5, o 28 (.load true 16 (t 7)), o 29 (.callf 31 [(.c .nilsl), (t 28)]), o 30 (.bsl 22 1 1 [.nilsl] [(0, 1, (t 29))]), o 31 (.app 22 1 24 false (t 27) (t 30)), m 5 31])))
 (.reg [o 32 (b .add (t 23) (k 1)), m 23 32])))))))
 (.seq (.reg [m 33 4, m 34 5, o 35 (.callf 32 [(t 34)]), o 36 (.app 5 1 1 false (t 33) (t 35)), m 2 36, o 3 (.mv (k 0))])
 .ret)))))), false⟩
/-- slices.Chunk[[]byte,byte] -/
def a18 : AFn := ⟨9, [.tmp 4],
 (.seq (.reg [o 2 (.box 22 (t 0)), o 3 (.box 3 (t 1)), o 4 (.mv (.c (.d .nilf)))])
 (.seq (.seq (.reg [l 5 3, o 6 (b .lss (t 5) (k 1))])
 (.cond (t 6)
 (.reg [o 7 (.mkif 9 (.c (.d (.s [99, 97, 110, 110, 111, 116, 32, 98, 101, 32, 108, 101, 115, 115, 32, 116, 104, 97, 110, 32, 49])))), u (.panic (t 7))])
 .skip))
 (.seq (.reg [o 8 (.mkfn (.func 33) [] [(t 2), (t 3)]), m 4 8])
 .ret))), false⟩
/-- slices.Clone[[]byte,byte] -/
def a19 : AFn := ⟨8, [.tmp 2],
 (.seq (.reg [o 2 (.mv (.c .nilsl))])
 (.seq (.seq (.reg [m 3 0, o 4 (.bin .eql .nilS (t 3) (.c .nilsl))])
 (.cond (t 4)
 (.seq (.reg [o 2 (.mv (.c .nilsl))])
 .ret)
 .skip))
 (.seq (.reg [o 5 (.bsl 5 1 0 [(.d (.i .u8 0))] []), m 6 0, o 7 (.app 5 1 1 false (t 5) (t 6)), m 2 7])
 .ret))), false⟩
/-- foreman/batch.wrong$1 -/
def a20 : AFn := ⟨6, [.tmp 2],
 (.seq (.reg [o 2 (.mv (.c (.d (.b false))))])
 (.seq (.reg [m 3 0, o 4 (.len 1 (t 3)), o 5 (b .gtr (t 4) (k 4096)), m 2 5])
 .ret)), false⟩
/-- slices.ContainsFunc[[][]byte,[]byte] -/
def a21 : AFn := ⟨9, [.tmp 4],
 (.seq (.reg [o 4 (.mv (.c (.d (.b false))))])
 (.seq (.reg [m 5 0, m 6 1, o 7 (.callf 34 [(t 5), (t 6)]), o 8 (b .geq (t 7) (k 0)), m 4 8])
 .ret)), false⟩
/-- foreman/op.Right -/
def a22 : AFn := ⟨76, [.tmp 2],
 (.seq (.reg [o 1 (.box 31 (t 0)), o 2 (.mv (.c (.d (.b false))))])
 (.seq (.reg [o 4 (.fadd 0 (t 1)), l 5 4, o 6 (.callf 23 [(t 5)]), m 3 6])
 (.seq (.dreg 0 [⟨m 7 3, 0, false, [], none⟩, ⟨o 8 (b .neq (t 7) (.c (.d (.i .u8 0)))), 1, false, [], none⟩, ⟨m 9 8, 2, false, [], none⟩, ⟨og 13 (.fadd 7 (t 1)) 9 true, 6, false, [], none⟩, ⟨lg 14 13 9 true, 7, false, [], none⟩, ⟨og 15 (.callf 36 [(t 14)]) 9 true, 8, true, [], none⟩, ⟨mg 10 3 9 true, 3, false, [], none⟩, ⟨og 11 (b .and (t 10) (.c (.d (.i .u8 1)))) 9 true, 4, false, [], none⟩, ⟨og 12 (b .neq (t 11) (.c (.d (.i .u8 0)))) 9 true, 5, false, [], none⟩, ⟨og 16 (.fadd 7 (t 1)) 9 true, 9, false, [], none⟩, ⟨lg 17 16 9 true, 10, false, [], none⟩, ⟨og 18 (.len 1 (t 17)) 9 true, 11, false, [], none⟩, ⟨og 19 (b .eql (t 18) (k 0)) 9 true, 12, false, [], none⟩, ⟨og 20 (.callf 35 [(t 12), (t 15), (t 19)]) 9 true, 13, true, [], none⟩, ⟨o 21 (.pick (t 9) (t 20) (.c (.d (.b false)))), 14, false, [13, 8], none⟩, ⟨m 22 21, 15, false, [13, 8], none⟩, ⟨mg 23 3 22 true, 16, false, [13, 8], none⟩, ⟨og 24 (b .and (t 23) (.c (.d (.i .u8 2)))) 22 true, 17, false, [13, 8], none⟩, ⟨og 25 (b .neq (t 24) (.c (.d (.i .u8 0)))) 22 true, 18, false, [13, 8], none⟩, ⟨og 26 (.fadd 8 (t 1)) 22 true, 19, false, [13, 8], none⟩, ⟨lg 27 26 22 true, 20, false, [13, 8], none⟩, ⟨og 28 (b .geq (t 27) (k 0)) 22 true, 21, false, [13, 8], none⟩, ⟨mg 29 28 22 true, 22, false, [13, 8], none⟩, ⟨og 30 (.fadd 8 (t 1)) 29 true, 23, false, [13, 8], none⟩, ⟨lg 31 30 29 true, 24, false, [13, 8], none⟩, ⟨og 32 (b .leq (t 31) (k 400)) 29 true, 25, false, [13, 8], none⟩, ⟨og 33 (.pick (t 29) (t 32) (.c (.d (.b false)))) 22 true, 26, false, [13, 8], none⟩, ⟨og 34 (.fadd 8 (t 1)) 22 true, 27, false, [13, 8], none⟩, ⟨lg 35 34 22 true, 28, false, [13, 8], none⟩, ⟨og 36 (b .eql (t 35) (k 0)) 22 true, 29, false, [13, 8], none⟩, ⟨og 37 (.callf 35 [(t 25), (t 33), (t 36)]) 22 true, 30, true, [], none⟩, ⟨o 38 (.pick (t 22) (t 37) (.c (.d (.b false)))), 31, false, [30, 13, 8], none⟩, ⟨m 39 38, 32, false, [30, 13, 8], none⟩, ⟨og 43 (.fadd 1 (t 1)) 39 true, 36, false, [30, 13, 8], none⟩, ⟨lg 44 43 39 true, 37, false, [30, 13, 8], none⟩, ⟨og 45 (.callf 37 [(t 44)]) 39 true, 38, true, [], none⟩, ⟨mg 40 3 39 true, 33, false, [30, 13, 8], none⟩, ⟨og 41 (b .and (t 40) (.c (.d (.i .u8 4)))) 39 true, 34, false, [30, 13, 8], none⟩, ⟨og 42 (b .neq (t 41) (.c (.d (.i .u8 0)))) 39 true, 35, false, [30, 13, 8], none⟩, ⟨og 46 (.fadd 1 (t 1)) 39 true, 39, false, [30, 13, 8], none⟩, ⟨lg 47 46 39 true, 40, false, [30, 13, 8], none⟩, ⟨og 48 (b .eql (t 47) (.c (.d (.s [])))) 39 true, 41, false, [30, 13, 8], none⟩, ⟨og 49 (.callf 35 [(t 42), (t 45), (t 48)]) 39 true, 42, true, [], none⟩, ⟨o 50 (.pick (t 39) (t 49) (.c (.d (.b false)))), 43, false, [42, 38, 30, 13, 8], none⟩, ⟨m 51 50, 44, false, [42, 38, 30, 13, 8], none⟩, ⟨mg 52 3 51 true, 45, false, [42, 38, 30, 13, 8], none⟩, ⟨og 53 (b .and (t 52) (.c (.d (.i .u8 8)))) 51 true, 46, false, [42, 38, 30, 13, 8], none⟩, ⟨og 54 (b .neq (t 53) (.c (.d (.i .u8 0)))) 51 true, 47, false, [42, 38, 30, 13, 8], none⟩, ⟨og 55 (.fadd 2 (t 1)) 51 true, 48, false, [42, 38, 30, 13, 8], none⟩, ⟨lg 56 55 51 true, 49, false, [42, 38, 30, 13, 8], none⟩, ⟨og 57 (b .geq (t 56) (k 1)) 51 true, 50, false, [42, 38, 30, 13, 8], none⟩, ⟨og 58 (.fadd 2 (t 1)) 51 true, 51, false, [42, 38, 30, 13, 8], none⟩, ⟨lg 59 58 51 true, 52, false, [42, 38, 30, 13, 8], none⟩, ⟨og 60 (b .eql (t 59) (k 0)) 51 true, 53, false, [42, 38, 30, 13, 8], none⟩, ⟨og 61 (.callf 35 [(t 54), (t 57), (t 60)]) 51 true, 54, true, [], none⟩, ⟨o 62 (.pick (t 51) (t 61) (.c (.d (.b false)))), 55, false, [54, 42, 38, 30, 13, 8], none⟩, ⟨m 63 62, 56, false, [54, 42, 38, 30, 13, 8], none⟩, ⟨og 67 (.fadd 3 (t 1)) 63 true, 60, false, [54, 42, 38, 30, 13, 8], none⟩, ⟨og 68 (.load true 4 (t 67)) 63 true, 61, false, [54, 42, 38, 30, 13, 8], none⟩, ⟨og 69 (.callf 38 [(t 68)]) 63 true, 62, true, [], none⟩, ⟨og 70 (.fadd 3 (t 1)) 63 true, 63, false, [54, 42, 38, 30, 13, 8], none⟩, ⟨og 71 (.load true 4 (t 70)) 63 true, 64, false, [54, 42, 38, 30, 13, 8], none⟩, ⟨og 72 (.build [(.d (.i .u8 0)), (.d (.i .i64 0)), (.d (.s [])), .nilsl] []) 63 true, 65, false, [54, 42, 38, 30, 13, 8], none⟩, ⟨og 73 (.callf 39 [(t 71), (t 72)]) 63 true, 66, true, [], none⟩, ⟨mg 64 3 63 true, 57, false, [54, 42, 38, 30, 13, 8], none⟩, ⟨og 65 (b .and (t 64) (.c (.d (.i .u8 16)))) 63 true, 58, false, [54, 42, 38, 30, 13, 8], none⟩, ⟨og 66 (b .neq (t 65) (.c (.d (.i .u8 0)))) 63 true, 59, false, [54, 42, 38, 30, 13, 8], none⟩, ⟨og 74 (.callf 35 [(t 66), (t 69), (t 73)]) 63 true, 67, true, [], none⟩, ⟨o 75 (.pick (t 63) (t 74) (.c (.d (.b false)))), 68, false, [67, 66, 62, 54, 42, 38, 30, 13, 8], none⟩, ⟨m 2 75, 69, false, [67, 66, 62, 54, 42, 38, 30, 13, 8], none⟩])
 .ret))), false⟩
/-- foreman/op.of -/
def a23 : AFn := ⟨9, [.tmp 2],
 (.seq (.reg [o 2 (.mv (.c (.d (.i .u8 0))))])
 (.seq (.seq (.reg [m 3 0, o 4 (.cvi .i64 (t 3)), o 5 (b .geq (t 4) (k 6))])
 (.cond (t 5)
 (.seq (.reg [o 2 (.mv (.c (.d (.i .u8 0))))])
 .ret)
 .skip))
 (.seq (.reg [m 6 0, o 7 (.iaA 6 1 (.c (.glob 0 0)) (t 6)), l 8 7, m 2 8])
 .ret))), false⟩
/-- foreman/wire.Num -/
def a24 : AFn := ⟨10, [.tmp 4],
 (.seq (.reg [o 4 (.mv (.c .nilsl))])
 (.seq (.reg [m 5 0, o 6 (.clone 19 5 1 1 false (t 5)), m 7 1, o 8 (.callf 41 [(t 7)]), o 9 (.callf 40 [(t 6), (t 8)]), m 4 9])
 .ret)), false⟩
/-- foreman/wire.Text -/
def a25 : AFn := ⟨11, [.tmp 4],
 (.seq (.reg [o 4 (.mv (.c .nilsl))])
 (.seq (.reg [m 5 0, m 6 1, o 7 (.len 0 (t 6)), o 8 (.callf 24 [(t 5), (t 7)]), m 9 1, o 10 (.app 5 1 1 false (t 8) (t 9)), m 4 10])
 .ret)), false⟩
/-- foreman/value.Put -/
def a26 : AFn := ⟨44, [.tmp 4],
 (.seq (.reg [o 3 (.box 25 (t 1)), o 4 (.mv (.c .nilsl))])
 (.seq (.reg [m 8 0, o 9 (.fadd 0 (t 3)), l 10 9, o 11 (.cvi .i64 (t 10)), o 12 (.callf 24 [(t 8), (t 11)]), m 5 12])
 (.seq (.seq (.reg [o 13 (.fadd 0 (t 3)), l 14 13])
 (.blk 0 (.seq (.reg [o 16 (b .eql (t 14) (.c (.d (.i .u8 0)))), m 15 16])
 (.cond (t 15)
 (.seq (.reg [m 17 5, o 18 (.fadd 1 (t 3)), l 19 18, o 20 (.callf 24 [(t 17), (t 19)]), m 4 20])
 .ret)
 (.seq (.reg [o 22 (b .eql (t 14) (.c (.d (.i .u8 1)))), m 21 22])
 (.cond (t 21)
 (.seq (.reg [m 23 5, o 24 (.fadd 2 (t 3)), l 25 24, o 26 (.callf 25 [(t 23), (t 25)]), m 4 26])
 .ret)
 .skip))))))
 (.seq (.reg [m 27 5, o 28 (.fadd 3 (t 3)), l 29 28, o 30 (.len 1 (t 29)), o 31 (.callf 24 [(t 27), (t 30)]), m 5 31])
 (.seq (.seq (.reg [o 32 (.fadd 3 (t 3)), l 33 32, o 34 (.len 1 (t 33)), o 35 (.mv (k 0))])
 (.blk 1 (.loop (.seq (.reg [o 36 (b .lss (t 35) (t 34))])
 (.seq (.cond (t 36)
 .skip
 (.exit 1))
 (.seq (.blk 2 (.seq (.reg [o 37 (.iaS 4 (t 33) (t 35)), o 38 (.load true 4 (t 37)), o 7 (.alloc 25 [(.d (.i .u8 0)), (.d (.i .i64 0)), (.d (.s [])), .nilsl]), u (.store 4 (t 7) (t 38))])
 (.reg [m 39 5, o 40 (.load true 4 (t 7)), o 41 (.callf 26 [(t 39), (t 40)]), m 5 41])))
 (.reg [o 42 (b .add (t 35) (k 1)), m 35 42])))))))
 (.seq (.reg [m 43 5, m 4 43])
 .ret)))))), false⟩
/-- foreman/frag.Put -/
def a27 : AFn := ⟨60, [.tmp 4],
 (.seq (.reg [o 4 (.mv (.c .nilsl))])
 (.seq (.reg [m 10 0, m 11 1, o 12 (.len 1 (t 11)), o 13 (.callf 24 [(t 10), (t 12)]), m 5 13])
 (.seq (.seq (.reg [m 14 1, o 15 (.len 1 (t 14)), o 16 (.mv (k 0))])
 (.blk 0 (.loop (.seq (.reg [o 17 (b .lss (t 16) (t 15))])
 (.seq (.cond (t 17)
 .skip
 (.exit 0))
 (.seq (.blk 1 (.seq (.reg [o 18 (.iaS 6 (t 14) (t 16)), o 19 (.load true 6 (t 18)), o 7 (.alloc 28 [(.d (.s [])), (.d (.i .u8 0)), .nilsl, (.d (.s [])), (.d (.i .i64 0)), (.d (.i .i64 0))]), u (.store 6 (t 7) (t 19))])
 (.seq (.dreg 0 [⟨m 20 5, 0, false, [], none⟩, ⟨o 21 (.fadd 0 (t 7)), 1, false, [], none⟩, ⟨l 22 21, 2, false, [], none⟩, ⟨o 23 (.callf 25 [(t 20), (t 22)]), 3, true, [], none⟩, ⟨o 24 (.fadd 1 (t 7)), 4, false, [], none⟩, ⟨l 25 24, 5, false, [], none⟩, ⟨o 26 (.cvi .i64 (t 25)), 6, false, [], none⟩, ⟨o 27 (.callf 24 [(t 23), (t 26)]), 7, true, [], none⟩, ⟨m 5 27, 8, false, [7, 3], none⟩])
 (.seq (.reg [m 28 5, o 29 (.fadd 2 (t 7)), l 30 29, o 31 (.len 1 (t 30)), o 32 (.callf 24 [(t 28), (t 31)]), m 5 32])
 (.seq (.seq (.reg [o 33 (.fadd 2 (t 7)), l 34 33, o 35 (.len 1 (t 34)), o 36 (.mv (k 0))])
 (.blk 2 (.loop (.seq (.reg [o 37 (b .lss (t 36) (t 35))])
 (.seq (.cond (t 37)
 .skip
 (.exit 2))
 (.seq (.blk 3 (.seq (.reg [o 38 (.iaS 1 (t 34) (t 36)), l 39 38, m 9 39])
 (.reg [m 40 5, m 41 9, o 42 (.callf 25 [(t 40), (t 41)]), m 5 42])))
 (.reg [o 43 (b .add (t 36) (k 1)), m 36 43])))))))
 (.seq (.reg [m 44 5, o 45 (.fadd 5 (t 7)), l 46 45, o 47 (.callf 24 [(t 44), (t 46)]), m 5 47])
 (.seq (.reg [o 48 (.fadd 1 (t 7)), l 49 48, o 50 (b .eql (t 49) (.c (.d (.i .u8 1))))])
 (.cond (t 50)
 (.dreg 0 [⟨m 51 5, 0, false, [], none⟩, ⟨o 52 (.fadd 3 (t 7)), 1, false, [], none⟩, ⟨l 53 52, 2, false, [], none⟩, ⟨o 54 (.callf 25 [(t 51), (t 53)]), 3, true, [], none⟩, ⟨o 55 (.fadd 4 (t 7)), 4, false, [], none⟩, ⟨l 56 55, 5, false, [], none⟩, ⟨o 57 (.callf 24 [(t 54), (t 56)]), 6, true, [], none⟩, ⟨m 5 57, 7, false, [6, 3], none⟩])
 .skip))))))))
 (.reg [o 58 (b .add (t 16) (k 1)), m 16 58])))))))
 (.seq (.reg [m 59 5, m 4 59])
 .ret)))), false⟩
/-- foreman/snap.Right -/
def a28 : AFn := ⟨22, [.tmp 2],
 (.seq (.reg [o 1 (.box 46 (t 0)), o 2 (.mv (.c (.d (.b false))))])
 (.seq (.reg [o 3 (.callf 30 [(t 1)]), o 4 (.callf 42 [(t 3)]), m 5 4, og 6 (.fadd 7 (t 1)) 5 true, lg 7 6 5 true, og 8 (b .geq (t 7) (k 0)) 5 true, o 9 (.pick (t 5) (t 8) (.c (.d (.b false)))), m 10 9, og 11 (.fadd 6 (t 1)) 10 true, lg 12 11 10 true, og 13 (.len 1 (t 12)) 10 true, og 14 (b .leq (t 13) (k 4800)) 10 true, o 15 (.pick (t 10) (t 14) (.c (.d (.b false)))), m 16 15, og 17 (.fadd 6 (t 1)) 16 true, lg 18 17 16 true, og 19 (.callf 43 [(t 18), (.c (.d (.fn (.func 44) [] [])))]) 16 true, og 20 (.un .not (t 19)) 16 true, o 21 (.pick (t 16) (t 20) (.c (.d (.b false)))), m 2 21])
 .ret)), false⟩
/-- foreman/snap.nums -/
def a29 : AFn := ⟨20, [.tmp 4],
 (.seq (.reg [o 2 (.box 22 (t 0)), o 4 (.mv (.c .nilsl))])
 (.seq (.reg [o 8 (.mkfn (.func 46) [] [(t 2)]), m 5 8])
 (.seq (.seq (.reg [m 9 1, o 10 (.len 1 (t 9)), o 11 (.mv (k 0))])
 (.blk 0 (.loop (.seq (.reg [o 12 (b .lss (t 11) (t 10))])
 (.seq (.cond (t 12)
 .skip
 (.exit 0))
 (.seq (.blk 1 (.seq (.reg [o 13 (.iaS 3 (t 9) (t 11)), o 14 (.load true 3 (t 13)), o 7 (.alloc 99 [(.d .nilp), (.d (.i .i64 0)), (.d (.i .i64 0))]), u (.store 3 (t 7) (t 14))])
 (.reg [m 15 5, o 16 (.load true 3 (t 7)), o 17 (.callv (t 15) [(t 16)])])))
 (.reg [o 18 (b .add (t 11) (k 1)), m 11 18])))))))
 (.seq (.reg [l 19 2, m 4 19])
 .ret)))), false⟩
/-- foreman/snap.head -/
def a30 : AFn := ⟨32, [.tmp 2],
 (.seq (.reg [o 2 (.mv (.c .nilsl))])
 (.seq (.reg [m 4 0, o 5 (.nilchk (t 4)), o 6 (.fadd 0 (t 5)), m 3 6])
 (.seq (.dreg 1 [⟨m 7 3, 0, false, [], none⟩, ⟨o 8 (.nilchk (t 7)), 1, false, [], none⟩, ⟨o 9 (.fadd 0 (t 8)), 2, false, [], none⟩, ⟨o 10 (.build [(.d .nilp), (.d (.i .i64 0)), (.d (.i .i64 0))] [(0, 1, (t 9)), (1, 1, (k 0)), (2, 1, (k 400))]), 3, false, [], none⟩, ⟨m 11 3, 4, false, [], none⟩, ⟨o 12 (.nilchk (t 11)), 5, false, [], none⟩, ⟨o 13 (.fadd 1 (t 12)), 6, false, [], none⟩, ⟨o 14 (.build [(.d .nilp), (.d (.i .i64 0)), (.d (.i .i64 0))] [(0, 1, (t 13)), (1, 1, (k 0)), (2, 1, (k 12))]), 7, false, [], none⟩, ⟨m 15 3, 8, false, [], none⟩, ⟨o 16 (.nilchk (t 15)), 9, false, [], none⟩, ⟨o 17 (.fadd 2 (t 16)), 10, false, [], none⟩, ⟨o 18 (.build [(.d .nilp), (.d (.i .i64 0)), (.d (.i .i64 0))] [(0, 1, (t 17)), (1, 1, (k 0)), (2, 1, (k 40))]), 11, false, [], none⟩, ⟨m 19 3, 12, false, [], none⟩, ⟨o 20 (.nilchk (t 19)), 13, false, [], none⟩, ⟨o 21 (.fadd 3 (t 20)), 14, false, [], none⟩, ⟨o 22 (.build [(.d .nilp), (.d (.i .i64 0)), (.d (.i .i64 0))] [(0, 1, (t 21)), (1, 1, (k 0)), (2, 1, (k 9))]), 15, false, [], none⟩, ⟨m 23 3, 16, false, [], none⟩, ⟨o 24 (.nilchk (t 23)), 17, false, [], none⟩, ⟨o 25 (.fadd 4 (t 24)), 18, false, [], none⟩, ⟨o 26 (.build [(.d .nilp), (.d (.i .i64 0)), (.d (.i .i64 0))] [(0, 1, (t 25)), (1, 1, (k 0)), (2, 1, (k 12))]), 19, false, [], none⟩, ⟨m 27 0, 20, false, [], none⟩, ⟨o 28 (.nilchk (t 27)), 21, false, [], none⟩, ⟨o 29 (.fadd 5 (t 28)), 22, false, [], none⟩, ⟨o 30 (.build [(.d .nilp), (.d (.i .i64 0)), (.d (.i .i64 0))] [(0, 1, (t 29)), (1, 1, (k 0)), (2, 1, (k 12))]), 23, false, [], none⟩, ⟨o 31 (.bsl 99 3 6 [(.d .nilp), (.d (.i .i64 0)), (.d (.i .i64 0))] [(0, 3, (t 10)), (3, 3, (t 14)), (6, 3, (t 18)), (9, 3, (t 22)), (12, 3, (t 26)), (15, 3, (t 30))]), 24, false, [], (some 0)⟩, ⟨m 2 31, 25, false, [], none⟩])
 .ret))), false⟩
/-- foreman/snap.put -/
def a31 : AFn := ⟨53, [.tmp 4],
 (.seq (.reg [o 3 (.box 52 (t 1)), o 4 (.mv (.c .nilsl))])
 (.seq (.reg [o 9 (.fadd 2 (t 3)), l 10 9, o 11 (.cvi .i64 (t 10)), o 12 (.fadd 9 (t 3)), l 13 12, o 14 (.cvi .i64 (t 13)), o 15 (.build [(.d (.i .i64 0)), (.d (.i .i64 0))] [(0, 1, (t 11)), (1, 1, (t 14))]), o 16 (.box 104 (t 15)), m 5 16])
 (.seq (.dreg 0 [⟨m 17 0, 0, false, [], none⟩, ⟨o 18 (.fadd 0 (t 3)), 1, false, [], none⟩, ⟨l 19 18, 2, false, [], none⟩, ⟨o 20 (.callf 25 [(t 17), (t 19)]), 3, true, [], none⟩, ⟨o 21 (.fadd 1 (t 3)), 4, false, [], none⟩, ⟨l 22 21, 5, false, [], none⟩, ⟨o 23 (.callf 25 [(t 20), (t 22)]), 6, true, [], none⟩, ⟨m 24 5, 7, false, [], none⟩, ⟨o 25 (.callf 47 [(t 3), (t 24)]), 8, true, [], none⟩, ⟨o 26 (.callf 29 [(t 23), (t 25)]), 9, true, [], none⟩, ⟨m 6 26, 10, false, [9, 8, 6, 3], none⟩])
 (.seq (.reg [m 27 6, o 28 (.fadd 6 (t 3)), l 29 28, o 30 (.len 1 (t 29)), o 31 (.callf 24 [(t 27), (t 30)]), m 6 31])
 (.seq (.seq (.reg [o 32 (.fadd 6 (t 3)), l 33 32, o 34 (.len 1 (t 33)), o 35 (.mv (k 0))])
 (.blk 0 (.loop (.seq (.reg [o 36 (b .lss (t 35) (t 34))])
 (.seq (.cond (t 36)
 .skip
 (.exit 0))
 (.seq (.blk 1 (.seq (.reg [o 37 (.iaS 1 (t 33) (t 35)), l 38 37, m 8 38])
 (.reg [m 39 6, m 40 8, o 41 (.callf 24 [(t 39), (t 40)]), m 6 41])))
 (.reg [o 42 (b .add (t 35) (k 1)), m 35 42])))))))
 (.seq (.dreg 0 [⟨m 44 5, 1, false, [], none⟩, ⟨o 45 (.callf 48 [(t 3), (t 44)]), 2, true, [], none⟩, ⟨m 43 6, 0, false, [], none⟩, ⟨o 46 (.callf 29 [(t 43), (t 45)]), 3, true, [], none⟩, ⟨o 47 (.fadd 11 (t 3)), 4, false, [], none⟩, ⟨l 48 47, 5, false, [], none⟩, ⟨o 49 (.callf 24 [(t 46), (t 48)]), 6, true, [], none⟩, ⟨o 50 (.fadd 12 (t 3)), 7, false, [], none⟩, ⟨o 51 (.load true 4 (t 50)), 8, false, [], none⟩, ⟨o 52 (.callf 26 [(t 49), (t 51)]), 9, true, [], none⟩, ⟨m 4 52, 10, false, [9, 6, 3, 2], none⟩])
 .ret)))))), false⟩
/-- slices.Concat[[]byte,byte] -/
def a32 : AFn := ⟨36, [.tmp 2],
 (.seq (.reg [o 2 (.mv (.c .nilsl))])
 (.seq (.reg [o 3 (.mv (k 0))])
 (.seq (.seq (.reg [m 9 0, o 10 (.len 1 (t 9)), o 11 (.mv (k 0))])
 (.blk 0 (.loop (.seq (.reg [o 12 (b .lss (t 11) (t 10))])
 (.seq (.cond (t 12)
 .skip
 (.exit 0))
 (.seq (.blk 1 (.seq (.reg [o 13 (.iaS 1 (t 9) (t 11)), l 14 13, m 5 14])
 (.seq (.reg [m 15 3, m 16 5, o 17 (.len 1 (t 16)), o 18 (b .add (t 15) (t 17)), m 3 18])
 (.seq (.reg [m 19 3, o 20 (b .lss (t 19) (k 0))])
 (.cond (t 20)
 (.reg [o 21 (.mkif 9 (.c (.d (.s [108, 101, 110, 32, 111, 117, 116, 32, 111, 102, 32, 114, 97, 110, 103, 101])))), u (.panic (t 21))])
 .skip)))))
 (.reg [o 22 (b .add (t 11) (k 1)), m 11 22])))))))
 (.seq (.reg [m 23 3, o 24 (.callf 49 [(.c .nilsl), (t 23)]), m 6 24])
 (.seq (.seq (.reg [m 25 0, o 26 (.len 1 (t 25)), o 27 (.mv (k 0))])
 (.blk 2 (.loop (.seq (.reg [o 28 (b .lss (t 27) (t 26))])
 (.seq (.cond (t 28)
 .skip
 (.exit 2))
 (.seq (.blk 3 (.seq (.reg [o 29 (.iaS 1 (t 25) (t 27)), l 30 29, m 8 30])
 (.reg [m 31 6, m 32 8, o 33 (.app 5 1 1 false (t 31) (t 32)), m 6 33])))
 (.reg [o 34 (b .add (t 27) (k 1)), m 27 34])))))))
 (.seq (.reg [m 35 6, m 2 35])
 .ret)))))), false⟩
/-- slices.Chunk[[]byte,byte]$1 -/
def a33 : AFn := ⟨31, [],
 (.seq (.reg [o 4 (.mv (k 0))])
 (.blk 0 (.loop (.seq (.seq (.reg [m 6 4, l 7 1, o 8 (.len 1 (t 7)), o 9 (b .lss (t 6) (t 8))])
 (.cond (t 9)
 .skip
 (.exit 0)))
 (.seq (.blk 1 (.seq (.dreg 0 [⟨l 13 2, 0, false, [], none⟩, ⟨l 14 1, 1, false, [], none⟩, ⟨m 15 4, 2, false, [], none⟩, ⟨o 16 (.slSl 1 (t 14) (some (t 15)) none none), 3, false, [], none⟩, ⟨o 17 (.len 1 (t 16)), 4, false, [], none⟩, ⟨o 18 (.mn [(t 13), (t 17)]), 5, false, [], none⟩, ⟨m 5 18, 6, false, [], none⟩])
 (.seq (.reg [m 19 0, l 20 1, m 21 4, m 22 4, m 23 5, o 24 (b .add (t 22) (t 23)), m 25 4, m 26 5, o 27 (b .add (t 25) (t 26)), o 28 (.slSl 1 (t 20) (some (t 21)) (some (t 24)) (some (t 27))), o 29 (.callv (t 19) [(t 28)]), o 30 (.un .not (t 29))])
 (.cond (t 30)
 .ret
 .skip))))
 (.reg [m 10 4, l 11 2, o 12 (b .add (t 10) (t 11)), m 4 12])))))), false⟩
/-- slices.IndexFunc[[][]byte,[]byte] -/
def a34 : AFn := ⟨19, [.tmp 4],
 (.seq (.reg [o 4 (.mv (k 0))])
 (.seq (.seq (.reg [m 6 0, o 7 (.len 1 (t 6)), o 8 (.mv (k 0))])
 (.blk 0 (.loop (.seq (.reg [o 9 (b .lss (t 8) (t 7))])
 (.seq (.cond (t 9)
 .skip
 (.exit 0))
 (.seq (.blk 1 (.seq (.reg [m 10 8, m 5 10])
 (.seq (.reg [m 11 1, m 12 0, m 13 5, o 14 (.iaS 1 (t 12) (t 13)), l 15 14, o 16 (.callv (t 11) [(t 15)])])
 (.cond (t 16)
 (.seq (.reg [m 17 5, m 4 17])
 .ret)
 .skip))))
 (.reg [o 18 (b .add (t 8) (k 1)), m 8 18])))))))
 (.seq (.reg [o 4 (.mv (k (-1)))])
 .ret))), false⟩
/-- foreman/op.either -/
def a35 : AFn := ⟨10, [.tmp 6],
 (.seq (.reg [o 6 (.mv (.c (.d (.b false))))])
 (.seq (.seq (.reg [m 7 0])
 (.cond (t 7)
 (.seq (.reg [m 8 1, m 6 8])
 .ret)
 .skip))
 (.seq (.reg [m 9 2, m 6 9])
 .ret))), false⟩
/-- foreman/frag.Right -/
def a36 : AFn := ⟨11, [.tmp 2],
 (.seq (.reg [o 2 (.mv (.c (.d (.b false))))])
 (.seq (.reg [m 3 0, o 4 (.len 1 (t 3)), o 5 (b .leq (t 4) (k 40)), m 6 5, mg 7 0 6 true, og 8 (.callf 50 [(t 7), (.c (.d (.fn (.func 51) [] [])))]) 6 true, og 9 (.un .not (t 8)) 6 true, o 10 (.pick (t 6) (t 9) (.c (.d (.b false)))), m 2 10])
 .ret)), false⟩
/-- foreman/op.ID -/
def a37 : AFn := ⟨18, [.tmp 2],
 (.seq (.reg [o 2 (.mv (.c (.d (.b false))))])
 (.seq (.reg [o 3 (.mv (.c (.d (.fn (.func 53) [] []))))])
 (.seq (.reg [m 4 0, o 5 (.len 0 (t 4)), o 6 (b .geq (t 5) (k 1)), m 7 6, mg 8 0 7 true, og 9 (.len 0 (t 8)) 7 true, og 10 (b .leq (t 9) (k 400)) 7 true, o 11 (.pick (t 7) (t 10) (.c (.d (.b false)))), m 12 11, mg 13 0 12 true, mg 14 3 12 true, og 15 (.callf 54 [(t 13), (t 14)]) 12 true, og 16 (.un .not (t 15)) 12 true, o 17 (.pick (t 12) (t 16) (.c (.d (.b false)))), m 2 17])
 .ret))), false⟩
/-- foreman/value.Right -/
def a38 : AFn := ⟨7, [.tmp 2],
 (.seq (.reg [o 1 (.box 25 (t 0)), o 2 (.mv (.c (.d (.b false))))])
 (.seq (.reg [o 3 (.build [(.d (.i .i64 0))] [(0, 1, (k 200))]), o 4 (.box 114 (t 3)), o 5 (.load true 4 (t 1)), o 6 (.callf 55 [(t 4), (t 5), (k 6)]), m 2 6])
 .ret)), false⟩
/-- foreman/value.Same -/
def a39 : AFn := ⟨31, [.tmp 4],
 (.seq (.reg [o 2 (.box 25 (t 0)), o 3 (.box 25 (t 1)), o 4 (.mv (.c (.d (.b false))))])
 (.seq (.reg [o 5 (.fadd 0 (t 2)), l 6 5, o 7 (.fadd 0 (t 3)), l 8 7, o 9 (b .eql (t 6) (t 8)), m 10 9, og 11 (.fadd 1 (t 2)) 10 true, lg 12 11 10 true, og 13 (.fadd 1 (t 3)) 10 true, lg 14 13 10 true, og 15 (b .eql (t 12) (t 14)) 10 true, o 16 (.pick (t 10) (t 15) (.c (.d (.b false)))), m 17 16, og 18 (.fadd 2 (t 2)) 17 true, lg 19 18 17 true, og 20 (.fadd 2 (t 3)) 17 true, lg 21 20 17 true, og 22 (b .eql (t 19) (t 21)) 17 true, o 23 (.pick (t 17) (t 22) (.c (.d (.b false)))), m 24 23, og 25 (.fadd 3 (t 2)) 24 true, lg 26 25 24 true, og 27 (.fadd 3 (t 3)) 24 true, lg 28 27 24 true, og 29 (.callf 56 [(t 26), (t 28), (.c (.d (.fn (.func 39) [] [])))]) 24 true, o 30 (.pick (t 24) (t 29) (.c (.d (.b false)))), m 4 30])
 .ret)), false⟩
/-- slices.AppendSeq[[]byte,byte] -/
def a40 : AFn := ⟨13, [.tmp 4],
 (.seq (.reg [o 2 (.box 22 (t 0)), o 4 (.mv (.c .nilsl))])
 (.seq (.seq (.reg [m 6 1])
 (.blk 0 (.rfun (t 6) [7] (.reg [m 5 7]) (.blk 1 (.reg [l 8 2, m 9 5, o 10 (.bsl 5 1 1 [(.d (.i .u8 0))] [(0, 1, (t 9))]), o 11 (.app 5 1 1 false (t 8) (t 10)), u (.store 1 (t 2) (t 11))])))))
 (.seq (.reg [l 12 2, m 4 12])
 .ret))), true⟩
/-- foreman/wire.groups -/
def a41 : AFn := ⟨4, [.tmp 2],
 (.seq (.reg [o 1 (.box 2 (t 0)), o 2 (.mv (.c (.d .nilf)))])
 (.seq (.reg [o 3 (.mkfn (.func 57) [] [(t 1)]), m 2 3])
 .ret)), false⟩
/-- foreman/snap.fit -/
def a42 : AFn := ⟨6, [.tmp 2],
 (.seq (.reg [o 2 (.mv (.c (.d (.b false))))])
 (.seq (.reg [m 3 0, o 4 (.callf 59 [(t 3), (.c (.d (.fn (.func 60) [] [])))]), o 5 (.un .not (t 4)), m 2 5])
 .ret)), false⟩
/-- slices.ContainsFunc[[]foreman/api.Node,foreman/api.Node] -/
def a43 : AFn := ⟨9, [.tmp 4],
 (.seq (.reg [o 4 (.mv (.c (.d (.b false))))])
 (.seq (.reg [m 5 0, m 6 1, o 7 (.callf 61 [(t 5), (t 6)]), o 8 (b .geq (t 7) (k 0)), m 4 8])
 .ret)), false⟩
/-- foreman/snap.Right$1 -/
def a44 : AFn := ⟨6, [.tmp 2],
 (.seq (.reg [o 1 (.box 52 (t 0)), o 2 (.mv (.c (.d (.b false))))])
 (.seq (.reg [o 3 (.load true 16 (t 1)), o 4 (.callf 45 [(t 3)]), o 5 (.un .not (t 4)), m 2 5])
 .ret)), false⟩
/-- foreman/snap.fits -/
def a45 : AFn := ⟨59, [.tmp 2],
 (.seq (.reg [o 1 (.box 52 (t 0)), o 2 (.mv (.c (.d (.b false))))])
 (.seq (.reg [o 5 (.fadd 2 (t 1)), l 6 5, o 7 (.cvi .i64 (t 6)), o 8 (.fadd 9 (t 1)), l 9 8, o 10 (.cvi .i64 (t 9)), o 11 (.build [(.d (.i .i64 0)), (.d (.i .i64 0))] [(0, 1, (t 7)), (1, 1, (t 10))]), o 12 (.box 104 (t 11)), m 3 12])
 (.seq (.reg [o 4 (.mv (.c (.d (.fn (.func 62) [] []))))])
 (.seq (.reg [o 13 (.fadd 0 (t 1)), l 14 13, o 15 (.callf 37 [(t 14)]), m 16 15, og 17 (.fadd 1 (t 1)) 16 true, lg 18 17 16 true, og 19 (b .eql (t 18) (.c (.d (.s [])))) 16 true, mg 20 19 16 true, og 21 (.fadd 1 (t 1)) 20 false, lg 22 21 20 false, og 23 (.callf 63 [(t 22)]) 20 false, og 24 (.pick (t 20) (.c (.d (.b true))) (t 23)) 16 true, o 25 (.pick (t 16) (t 24) (.c (.d (.b false)))), m 26 25, mg 27 3 26 true, og 28 (.callf 47 [(t 1), (t 27)]) 26 true, og 29 (.callf 42 [(t 28)]) 26 true, o 30 (.pick (t 26) (t 29) (.c (.d (.b false)))), m 31 30, mg 32 3 31 true, og 33 (.callf 48 [(t 1), (t 32)]) 31 true, og 34 (.callf 42 [(t 33)]) 31 true, o 35 (.pick (t 31) (t 34) (.c (.d (.b false)))), m 36 35, og 37 (.fadd 6 (t 1)) 36 true, lg 38 37 36 true, og 39 (.len 1 (t 38)) 36 true, og 40 (b .leq (t 39) (k 21)) 36 true, o 41 (.pick (t 36) (t 40) (.c (.d (.b false)))), m 42 41, og 43 (.fadd 6 (t 1)) 42 true, lg 44 43 42 true, mg 45 4 42 true, og 46 (.callf 64 [(t 44), (t 45)]) 42 true, og 47 (.un .not (t 46)) 42 true, o 48 (.pick (t 42) (t 47) (.c (.d (.b false)))), m 49 48, og 50 (.fadd 11 (t 1)) 49 true, lg 51 50 49 true, og 52 (b .geq (t 51) (k 0)) 49 true, o 53 (.pick (t 49) (t 52) (.c (.d (.b false)))), m 54 53, og 55 (.fadd 12 (t 1)) 54 true, og 56 (.load true 4 (t 55)) 54 true, og 57 (.callf 38 [(t 56)]) 54 true, o 58 (.pick (t 54) (t 57) (.c (.d (.b false)))), m 2 58])
 .ret)))), false⟩
/-- foreman/snap.nums$1 -/
def a46 : AFn := ⟨9, [],
 (.seq (.reg [o 2 (.box 99 (t 0))])
 (.dreg 0 [⟨l 3 1, 0, false, [], none⟩, ⟨o 4 (.fadd 0 (t 2)), 1, false, [], none⟩, ⟨l 5 4, 2, false, [], none⟩, ⟨o 6 (.nilchk (t 5)), 3, false, [], none⟩, ⟨l 7 6, 4, false, [], none⟩, ⟨o 8 (.callf 24 [(t 3), (t 7)]), 5, true, [], none⟩, ⟨u (.store 1 (t 1) (t 8)), 6, true, [], none⟩])), false⟩
/-- foreman/snap.first -/
def a47 : AFn := ⟨22, [.tmp 4],
 (.seq (.reg [o 4 (.mv (.c .nilsl))])
 (.seq (.dreg 1 [⟨m 5 1, 0, false, [], none⟩, ⟨o 6 (.nilchk (t 5)), 1, false, [], none⟩, ⟨o 7 (.fadd 0 (t 6)), 2, false, [], none⟩, ⟨o 8 (.build [(.d .nilp), (.d (.i .i64 0)), (.d (.i .i64 0))] [(0, 1, (t 7)), (1, 1, (k 0)), (2, 1, (k 2))]), 3, false, [], none⟩, ⟨m 9 0, 4, false, [], none⟩, ⟨o 10 (.nilchk (t 9)), 5, false, [], none⟩, ⟨o 11 (.fadd 3 (t 10)), 6, false, [], none⟩, ⟨o 12 (.build [(.d .nilp), (.d (.i .i64 0)), (.d (.i .i64 0))] [(0, 1, (t 11)), (1, 1, (k 0)), (2, 1, (k 12))]), 7, false, [], none⟩, ⟨m 13 0, 8, false, [], none⟩, ⟨o 14 (.nilchk (t 13)), 9, false, [], none⟩, ⟨o 15 (.fadd 4 (t 14)), 10, false, [], none⟩, ⟨o 16 (.build [(.d .nilp), (.d (.i .i64 0)), (.d (.i .i64 0))] [(0, 1, (t 15)), (1, 1, (k (-1))), (2, 1, (k 4799))]), 11, false, [], none⟩, ⟨m 17 0, 12, false, [], none⟩, ⟨o 18 (.nilchk (t 17)), 13, false, [], none⟩, ⟨o 19 (.fadd 5 (t 18)), 14, false, [], none⟩, ⟨o 20 (.build [(.d .nilp), (.d (.i .i64 0)), (.d (.i .i64 0))] [(0, 1, (t 19)), (1, 1, (k (-1))), (2, 1, (k 999999))]), 15, false, [], none⟩, ⟨o 21 (.bsl 99 3 4 [(.d .nilp), (.d (.i .i64 0)), (.d (.i .i64 0))] [(0, 3, (t 8)), (3, 3, (t 12)), (6, 3, (t 16)), (9, 3, (t 20))]), 16, false, [], (some 0)⟩, ⟨m 4 21, 17, false, [], none⟩])
 .ret)), false⟩
/-- foreman/snap.last -/
def a48 : AFn := ⟨22, [.tmp 4],
 (.seq (.reg [o 4 (.mv (.c .nilsl))])
 (.seq (.dreg 1 [⟨m 5 0, 0, false, [], none⟩, ⟨o 6 (.nilchk (t 5)), 1, false, [], none⟩, ⟨o 7 (.fadd 7 (t 6)), 2, false, [], none⟩, ⟨o 8 (.build [(.d .nilp), (.d (.i .i64 0)), (.d (.i .i64 0))] [(0, 1, (t 7)), (1, 1, (k 0)), (2, 1, (k 40))]), 3, false, [], none⟩, ⟨m 9 0, 4, false, [], none⟩, ⟨o 10 (.nilchk (t 9)), 5, false, [], none⟩, ⟨o 11 (.fadd 8 (t 10)), 6, false, [], none⟩, ⟨o 12 (.build [(.d .nilp), (.d (.i .i64 0)), (.d (.i .i64 0))] [(0, 1, (t 11)), (1, 1, (k 0)), (2, 1, (k 400))]), 7, false, [], none⟩, ⟨m 13 1, 8, false, [], none⟩, ⟨o 14 (.nilchk (t 13)), 9, false, [], none⟩, ⟨o 15 (.fadd 1 (t 14)), 10, false, [], none⟩, ⟨o 16 (.build [(.d .nilp), (.d (.i .i64 0)), (.d (.i .i64 0))] [(0, 1, (t 15)), (1, 1, (k 0)), (2, 1, (k 6))]), 11, false, [], none⟩, ⟨m 17 0, 12, false, [], none⟩, ⟨o 18 (.nilchk (t 17)), 13, false, [], none⟩, ⟨o 19 (.fadd 10 (t 18)), 14, false, [], none⟩, ⟨o 20 (.build [(.d .nilp), (.d (.i .i64 0)), (.d (.i .i64 0))] [(0, 1, (t 19)), (1, 1, (k 0)), (2, 1, (k 10))]), 15, false, [], none⟩, ⟨o 21 (.bsl 99 3 4 [(.d .nilp), (.d (.i .i64 0)), (.d (.i .i64 0))] [(0, 3, (t 8)), (3, 3, (t 12)), (6, 3, (t 16)), (9, 3, (t 20))]), 16, false, [], (some 0)⟩, ⟨m 4 21, 17, false, [], none⟩])
 .ret)), false⟩
/-- slices.Grow[[]byte,byte] -/
def a49 : AFn := ⟨27, [.tmp 4],
 (.seq (.reg [o 4 (.mv (.c .nilsl))])
 (.seq (.seq (.reg [m 5 1, o 6 (b .lss (t 5) (k 0))])
 (.cond (t 6)
 (.reg [o 7 (.mkif 9 (.c (.d (.s [99, 97, 110, 110, 111, 116, 32, 98, 101, 32, 110, 101, 103, 97, 116, 105, 118, 101])))), u (.panic (t 7))])
 .skip))
 (.seq (.seq (.reg [m 8 1, m 9 0, o 10 (.cap (t 9)), m 11 0, o 12 (.len 1 (t 11)), o 13 (b .sub (t 10) (t 12)), o 14 (b .sub (t 8) (t 13)), m 1 14])
 (.seq (.reg [m 15 1, o 16 (b .gtr (t 15) (k 0))])
 (.cond (t 16)
 (.reg [m 17 0, m 18 0, o 19 (.cap (t 18)), o 20 (.slSl 1 (t 17) none (some (t 19)) none), m 21 1, o 22 (.appz 5 1 1 [(.d (.i .u8 0))] (t 20) (t 21)), m 23 0, o 24 (.len 1 (t 23)), o 25 (.slSl 1 (t 22) none (some (t 24)) none), m 0 25])
 .skip)))
 (.seq (.reg [m 26 0, m 4 26])
 .ret)))), false⟩
/-- slices.ContainsFunc[[]foreman/api.Item,foreman/api.Item] -/
def a50 : AFn := ⟨9, [.tmp 4],
 (.seq (.reg [o 4 (.mv (.c (.d (.b false))))])
 (.seq (.reg [m 5 0, m 6 1, o 7 (.callf 65 [(t 5), (t 6)]), o 8 (b .geq (t 7) (k 0)), m 4 8])
 .ret)), false⟩
/-- foreman/frag.Right$1 -/
def a51 : AFn := ⟨6, [.tmp 2],
 (.seq (.reg [o 1 (.box 28 (t 0)), o 2 (.mv (.c (.d (.b false))))])
 (.seq (.reg [o 3 (.load true 6 (t 1)), o 4 (.callf 52 [(t 3)]), o 5 (.un .not (t 4)), m 2 5])
 .ret)), false⟩
/-- foreman/frag.fits -/
def a52 : AFn := ⟨44, [.tmp 2],
 (.seq (.reg [o 1 (.box 28 (t 0)), o 2 (.mv (.c (.d (.b false))))])
 (.seq (.seq (.reg [o 3 (.fadd 0 (t 1)), l 4 3, o 5 (.callf 63 [(t 4)]), o 6 (.un .not (t 5)), m 7 6, og 8 (.fadd 2 (t 1)) 7 false, lg 9 8 7 false, og 10 (.len 1 (t 9)) 7 false, og 11 (b .gtr (t 10) (k 20)) 7 false, o 12 (.pick (t 7) (.c (.d (.b true))) (t 11)), m 13 12, og 14 (.fadd 5 (t 1)) 13 false, lg 15 14 13 false, og 16 (.callf 66 [(t 15), (k 400)]) 13 false, og 17 (.un .not (t 16)) 13 false, o 18 (.pick (t 13) (.c (.d (.b true))) (t 17))])
 (.cond (t 18)
 (.seq (.reg [o 2 (.mv (.c (.d (.b false))))])
 .ret)
 .skip))
 (.seq (.seq (.reg [o 19 (.fadd 2 (t 1)), l 20 19, o 21 (.callf 67 [(t 20), (.c (.d (.fn (.func 68) [] [])))])])
 (.cond (t 21)
 (.seq (.reg [o 2 (.mv (.c (.d (.b false))))])
 .ret)
 .skip))
 (.seq (.seq (.reg [o 22 (.fadd 1 (t 1)), l 23 22])
 (.blk 0 (.seq (.reg [o 25 (b .eql (t 23) (.c (.d (.i .u8 0)))), m 24 25])
 (.cond (t 24)
 (.seq (.reg [o 26 (.fadd 3 (t 1)), l 27 26, o 28 (b .eql (t 27) (.c (.d (.s [])))), m 29 28, og 30 (.fadd 4 (t 1)) 29 true, lg 31 30 29 true, og 32 (b .eql (t 31) (k 0)) 29 true, o 33 (.pick (t 29) (t 32) (.c (.d (.b false)))), m 2 33])
 .ret)
 (.seq (.reg [o 35 (b .eql (t 23) (.c (.d (.i .u8 1)))), m 34 35])
 (.cond (t 34)
 (.seq (.reg [o 36 (.fadd 3 (t 1)), l 37 36, o 38 (.callf 63 [(t 37)]), m 39 38, og 40 (.fadd 4 (t 1)) 39 true, lg 41 40 39 true, og 42 (.callf 66 [(t 41), (k 40)]) 39 true, o 43 (.pick (t 39) (t 42) (.c (.d (.b false)))), m 2 43])
 .ret)
 .skip))))))
 (.seq (.reg [o 2 (.mv (.c (.d (.b false))))])
 .ret))))), false⟩
/-- foreman/op.ID$1 -/
def a53 : AFn := ⟨9, [.tmp 2],
 (.seq (.reg [o 2 (.mv (.c (.d (.b false))))])
 (.seq (.reg [m 3 0, o 4 (b .lss (t 3) (.c (.d (.i .i32 33)))), m 5 4, mg 6 0 5 false, og 7 (b .gtr (t 6) (.c (.d (.i .i32 126)))) 5 false, o 8 (.pick (t 5) (.c (.d (.b true))) (t 7)), m 2 8])
 .ret)), false⟩
/-- strings.ContainsFunc -/
def a54 : AFn := ⟨9, [.tmp 4],
 (.seq (.reg [o 4 (.mv (.c (.d (.b false))))])
 (.seq (.reg [m 5 0, m 6 1, o 7 (.callf 69 [(t 5), (t 6)]), o 8 (b .geq (t 7) (k 0)), m 4 8])
 .ret)), false⟩
/-- (*foreman/value.room).fits -/
def a55 : AFn := ⟨33, [.tmp 6],
 (.seq (.reg [o 3 (.box 112 (t 0)), o 4 (.box 25 (t 1)), o 5 (.box 3 (t 2)), o 6 (.mv (.c (.d (.b false))))])
 (.seq (.seq (.reg [l 7 3, o 8 (.nilchk (t 7)), o 9 (.fadd 0 (t 8)), l 10 9, o 11 (b .sub (t 10) (k 1)), o 12 (.nilchk (t 7)), o 13 (.fadd 0 (t 12)), u (.store 1 (t 13) (t 11))])
 (.seq (.reg [l 14 3, o 15 (.nilchk (t 14)), o 16 (.fadd 0 (t 15)), l 17 16, o 18 (b .lss (t 17) (k 0)), m 19 18, lg 20 5 19 false, og 21 (b .eql (t 20) (k 0)) 19 false, o 22 (.pick (t 19) (.c (.d (.b true))) (t 21)), m 23 22, og 24 (.load true 4 (t 4)) 23 false, og 25 (.callf 70 [(t 24)]) 23 false, og 26 (.un .not (t 25)) 23 false, o 27 (.pick (t 23) (.c (.d (.b true))) (t 26))])
 (.cond (t 27)
 (.seq (.reg [o 6 (.mv (.c (.d (.b false))))])
 .ret)
 .skip)))
 (.seq (.reg [o 28 (.fadd 3 (t 4)), l 29 28, o 30 (.mkfn (.func 72) [] [(t 3), (t 5)]), o 31 (.callf 71 [(t 29), (t 30)]), o 32 (.un .not (t 31)), m 6 32])
 .ret))), false⟩
/-- slices.EqualFunc[[]foreman/api.Value,[]foreman/api.Value,foreman/api.Value,foreman/api.Value] -/
def a56 : AFn := ⟨32, [.tmp 6],
 (.seq (.reg [o 6 (.mv (.c (.d (.b false))))])
 (.seq (.seq (.reg [m 10 0, o 11 (.len 1 (t 10)), m 12 1, o 13 (.len 1 (t 12)), o 14 (b .neq (t 11) (t 13))])
 (.cond (t 14)
 (.seq (.reg [o 6 (.mv (.c (.d (.b false))))])
 .ret)
 .skip))
 (.seq (.seq (.reg [m 15 0, o 16 (.len 1 (t 15)), o 17 (.mv (k 0))])
 (.blk 0 (.loop (.seq (.reg [o 18 (b .lss (t 17) (t 16))])
 (.seq (.cond (t 18)
 .skip
 (.exit 0))
 (.seq (.blk 1 (.seq (.reg [m 19 17, o 20 (.iaS 4 (t 15) (t 17)), o 21 (.load true 4 (t 20)), o 8 (.alloc 25 [(.d (.i .u8 0)), (.d (.i .i64 0)), (.d (.s [])), .nilsl]), m 7 19, u (.store 4 (t 8) (t 21))])
 (.seq (.reg [m 22 1, m 23 7, o 24 (.iaS 4 (t 22) (t 23)), o 25 (.load true 4 (t 24)), o 9 (.alloc 25 [(.d (.i .u8 0)), (.d (.i .i64 0)), (.d (.s [])), .nilsl]), u (.store 4 (t 9) (t 25))])
 (.seq (.reg [m 26 2, o 27 (.load true 4 (t 8)), o 28 (.load true 4 (t 9)), o 29 (.callv (t 26) [(t 27), (t 28)]), o 30 (.un .not (t 29))])
 (.cond (t 30)
 (.seq (.reg [o 6 (.mv (.c (.d (.b false))))])
 .ret)
 .skip)))))
 (.reg [o 31 (b .add (t 17) (k 1)), m 17 31])))))))
 (.seq (.reg [o 6 (.mv (.c (.d (.b true))))])
 .ret)))), false⟩
/-- foreman/wire.groups$1 -/
def a57 : AFn := ⟨20, [],
 (.seq (.reg [l 4 1, o 5 (.callf 58 [(t 4)]), m 3 5])
 (.seq (.blk 0 (.loop (.seq (.seq (.reg [m 6 3, o 7 (b .geq (t 6) (.c (.d (.i .u64 128))))])
 (.cond (t 7)
 .skip
 (.exit 0)))
 (.seq (.blk 1 (.seq (.reg [m 10 0, m 11 3, o 12 (.cvi .u8 (t 11)), o 13 (b .or (t 12) (.c (.d (.i .u8 128)))), o 14 (.callv (t 10) [(t 13)]), o 15 (.un .not (t 14))])
 (.cond (t 15)
 .ret
 .skip)))
 (.reg [m 8 3, o 9 (b .shr (t 8) (.c (.d (.i .u64 7)))), m 3 9])))))
 (.reg [m 16 0, m 17 3, o 18 (.cvi .u8 (t 17)), o 19 (.callv (t 16) [(t 18)])]))), false⟩
/-- foreman/wire.plain -/
def a58 : AFn := ⟨10, [.tmp 2],
 (.seq (.reg [o 2 (.mv (.c (.d (.i .u64 0))))])
 (.seq (.reg [m 3 0, o 4 (.cvi .u64 (t 3)), o 5 (b .shl (t 4) (.c (.d (.i .u64 1)))), m 6 0, o 7 (b .shr (t 6) (.c (.d (.i .u64 63)))), o 8 (.cvi .u64 (t 7)), o 9 (b .xor (t 5) (t 8)), m 2 9])
 .ret)), false⟩
/-- slices.ContainsFunc[[]foreman/snap.field,foreman/snap.field] -/
def a59 : AFn := ⟨9, [.tmp 4],
 (.seq (.reg [o 4 (.mv (.c (.d (.b false))))])
 (.seq (.reg [m 5 0, m 6 1, o 7 (.callf 73 [(t 5), (t 6)]), o 8 (b .geq (t 7) (k 0)), m 4 8])
 .ret)), false⟩
/-- foreman/snap.fit$1 -/
def a60 : AFn := ⟨19, [.tmp 2],
 (.seq (.reg [o 1 (.box 99 (t 0)), o 2 (.mv (.c (.d (.b false))))])
 (.seq (.dreg 0 [⟨o 3 (.fadd 0 (t 1)), 0, false, [], none⟩, ⟨l 4 3, 1, false, [], none⟩, ⟨o 5 (.nilchk (t 4)), 2, false, [], none⟩, ⟨l 6 5, 3, false, [], none⟩, ⟨o 7 (.fadd 1 (t 1)), 4, false, [], none⟩, ⟨l 8 7, 5, false, [], none⟩, ⟨o 9 (b .lss (t 6) (t 8)), 6, false, [], none⟩, ⟨m 10 9, 7, false, [], none⟩, ⟨og 11 (.fadd 0 (t 1)) 10 false, 8, false, [], none⟩, ⟨lg 12 11 10 false, 9, false, [], none⟩, ⟨og 13 (.nilchk (t 12)) 10 false, 10, false, [], none⟩, ⟨lg 14 13 10 false, 11, false, [], none⟩, ⟨og 15 (.fadd 2 (t 1)) 10 false, 12, false, [], none⟩, ⟨lg 16 15 10 false, 13, false, [], none⟩, ⟨og 17 (b .gtr (t 14) (t 16)) 10 false, 14, false, [], none⟩, ⟨o 18 (.pick (t 10) (.c (.d (.b true))) (t 17)), 15, false, [], none⟩, ⟨m 2 18, 16, false, [], none⟩])
 .ret)), false⟩
/-- slices.IndexFunc[[]foreman/api.Node,foreman/api.Node] -/
def a61 : AFn := ⟨19, [.tmp 4],
 (.seq (.reg [o 4 (.mv (k 0))])
 (.seq (.seq (.reg [m 6 0, o 7 (.len 1 (t 6)), o 8 (.mv (k 0))])
 (.blk 0 (.loop (.seq (.reg [o 9 (b .lss (t 8) (t 7))])
 (.seq (.cond (t 9)
 .skip
 (.exit 0))
 (.seq (.blk 1 (.seq (.reg [m 10 8, m 5 10])
 (.seq (.reg [m 11 1, m 12 0, m 13 5, o 14 (.iaS 16 (t 12) (t 13)), o 15 (.load true 16 (t 14)), o 16 (.callv (t 11) [(t 15)])])
 (.cond (t 16)
 (.seq (.reg [m 17 5, m 4 17])
 .ret)
 .skip))))
 (.reg [o 18 (b .add (t 8) (k 1)), m 8 18])))))))
 (.seq (.reg [o 4 (.mv (k (-1)))])
 .ret))), false⟩
/-- foreman/snap.fits$1 -/
def a62 : AFn := ⟨9, [.tmp 2],
 (.seq (.reg [o 2 (.mv (.c (.d (.b false))))])
 (.seq (.reg [m 3 0, o 4 (b .lss (t 3) (k 0)), m 5 4, mg 6 0 5 false, og 7 (b .geq (t 6) (k 4800)) 5 false, o 8 (.pick (t 5) (.c (.d (.b true))) (t 7)), m 2 8])
 .ret)), false⟩
/-- foreman/frag.Name -/
def a63 : AFn := ⟨16, [.tmp 2],
 (.seq (.reg [o 2 (.mv (.c (.d (.b false))))])
 (.seq (.reg [m 3 0, o 4 (.len 0 (t 3)), o 5 (b .geq (t 4) (k 1)), m 6 5, mg 7 0 6 true, og 8 (.len 0 (t 7)) 6 true, og 9 (b .leq (t 8) (k 20)) 6 true, o 10 (.pick (t 6) (t 9) (.c (.d (.b false)))), m 11 10, mg 12 0 11 true, og 13 (.callf 74 [(t 12), (.c (.d (.s [97, 98, 99, 100, 101, 102, 103, 104, 105, 106, 107, 108, 109, 110, 111, 112, 113, 114, 115, 116, 117, 118, 119, 120, 121, 122, 48, 49, 50, 51, 52, 53, 54, 55, 56, 57, 95])))]) 11 true, og 14 (b .eql (t 13) (.c (.d (.s [])))) 11 true, o 15 (.pick (t 11) (t 14) (.c (.d (.b false)))), m 2 15])
 .ret)), false⟩
/-- slices.ContainsFunc[[]int,int] -/
def a64 : AFn := ⟨9, [.tmp 4],
 (.seq (.reg [o 4 (.mv (.c (.d (.b false))))])
 (.seq (.reg [m 5 0, m 6 1, o 7 (.callf 75 [(t 5), (t 6)]), o 8 (b .geq (t 7) (k 0)), m 4 8])
 .ret)), false⟩
/-- slices.IndexFunc[[]foreman/api.Item,foreman/api.Item] -/
def a65 : AFn := ⟨19, [.tmp 4],
 (.seq (.reg [o 4 (.mv (k 0))])
 (.seq (.seq (.reg [m 6 0, o 7 (.len 1 (t 6)), o 8 (.mv (k 0))])
 (.blk 0 (.loop (.seq (.reg [o 9 (b .lss (t 8) (t 7))])
 (.seq (.cond (t 9)
 .skip
 (.exit 0))
 (.seq (.blk 1 (.seq (.reg [m 10 8, m 5 10])
 (.seq (.reg [m 11 1, m 12 0, m 13 5, o 14 (.iaS 6 (t 12) (t 13)), o 15 (.load true 6 (t 14)), o 16 (.callv (t 11) [(t 15)])])
 (.cond (t 16)
 (.seq (.reg [m 17 5, m 4 17])
 .ret)
 .skip))))
 (.reg [o 18 (b .add (t 8) (k 1)), m 8 18])))))))
 (.seq (.reg [o 4 (.mv (k (-1)))])
 .ret))), false⟩
/-- foreman/frag.within -/
def a66 : AFn := ⟨12, [.tmp 4],
 (.seq (.reg [o 4 (.mv (.c (.d (.b false))))])
 (.seq (.reg [m 5 0, o 6 (b .geq (t 5) (k 0)), m 7 6, mg 8 0 7 true, mg 9 1 7 true, og 10 (b .leq (t 8) (t 9)) 7 true, o 11 (.pick (t 7) (t 10) (.c (.d (.b false)))), m 4 11])
 .ret)), false⟩
/-- slices.ContainsFunc[[]string,string] -/
def a67 : AFn := ⟨9, [.tmp 4],
 (.seq (.reg [o 4 (.mv (.c (.d (.b false))))])
 (.seq (.reg [m 5 0, m 6 1, o 7 (.callf 76 [(t 5), (t 6)]), o 8 (b .geq (t 7) (k 0)), m 4 8])
 .ret)), false⟩
/-- foreman/frag.fits$1 -/
def a68 : AFn := ⟨6, [.tmp 2],
 (.seq (.reg [o 2 (.mv (.c (.d (.b false))))])
 (.seq (.reg [m 3 0, o 4 (.callf 63 [(t 3)]), o 5 (.un .not (t 4)), m 2 5])
 .ret)), false⟩
/-- strings.IndexFunc -/
def a69 : AFn := ⟨8, [.tmp 4],
 (.seq (.reg [o 4 (.mv (k 0))])
 (.seq (.reg [m 5 0, m 6 1, o 7 (.callf 77 [(t 5), (t 6), (.c (.d (.b true)))]), m 4 7])
 .ret)), false⟩
/-- foreman/value.plain -/
def a70 : AFn := ⟨49, [.tmp 2],
 (.seq (.reg [o 1 (.box 25 (t 0)), o 2 (.mv (.c (.d (.b false))))])
 (.seq (.seq (.reg [o 3 (.fadd 0 (t 1)), l 4 3])
 (.blk 0 (.seq (.reg [o 6 (b .eql (t 4) (.c (.d (.i .u8 0)))), m 5 6])
 (.cond (t 5)
 (.seq (.reg [o 7 (.fadd 2 (t 1)), l 8 7, o 9 (b .eql (t 8) (.c (.d (.s [])))), m 10 9, og 11 (.fadd 3 (t 1)) 10 true, lg 12 11 10 true, og 13 (.len 1 (t 12)) 10 true, og 14 (b .eql (t 13) (k 0)) 10 true, o 15 (.pick (t 10) (t 14) (.c (.d (.b false)))), m 2 15])
 .ret)
 (.seq (.reg [o 17 (b .eql (t 4) (.c (.d (.i .u8 1)))), m 16 17])
 (.cond (t 16)
 (.seq (.reg [o 18 (.fadd 1 (t 1)), l 19 18, o 20 (b .eql (t 19) (k 0)), m 21 20, og 22 (.fadd 3 (t 1)) 21 true, lg 23 22 21 true, og 24 (.len 1 (t 23)) 21 true, og 25 (b .eql (t 24) (k 0)) 21 true, o 26 (.pick (t 21) (t 25) (.c (.d (.b false)))), m 27 26, og 28 (.fadd 2 (t 1)) 27 true, lg 29 28 27 true, og 30 (.len 0 (t 29)) 27 true, og 31 (b .leq (t 30) (k 100)) 27 true, o 32 (.pick (t 27) (t 31) (.c (.d (.b false)))), m 2 32])
 .ret)
 (.seq (.reg [o 34 (b .eql (t 4) (.c (.d (.i .u8 2)))), m 33 34])
 (.cond (t 33)
 (.seq (.reg [o 35 (.fadd 1 (t 1)), l 36 35, o 37 (b .eql (t 36) (k 0)), m 38 37, og 39 (.fadd 2 (t 1)) 38 true, lg 40 39 38 true, og 41 (b .eql (t 40) (.c (.d (.s [])))) 38 true, o 42 (.pick (t 38) (t 41) (.c (.d (.b false)))), m 43 42, og 44 (.fadd 3 (t 1)) 43 true, lg 45 44 43 true, og 46 (.len 1 (t 45)) 43 true, og 47 (b .leq (t 46) (k 40)) 43 true, o 48 (.pick (t 43) (t 47) (.c (.d (.b false)))), m 2 48])
 .ret)
 .skip))))))))
 (.seq (.reg [o 2 (.mv (.c (.d (.b false))))])
 .ret))), false⟩
/-- slices.ContainsFunc[[]foreman/api.Value,foreman/api.Value] -/
def a71 : AFn := ⟨9, [.tmp 4],
 (.seq (.reg [o 4 (.mv (.c (.d (.b false))))])
 (.seq (.reg [m 5 0, m 6 1, o 7 (.callf 78 [(t 5), (t 6)]), o 8 (b .geq (t 7) (k 0)), m 4 8])
 .ret)), false⟩
/-- (*foreman/value.room).fits$1 -/
def a72 : AFn := ⟨11, [.tmp 4],
 (.seq (.reg [o 3 (.box 25 (t 0)), o 4 (.mv (.c (.d (.b false))))])
 (.seq (.reg [l 5 1, o 6 (.load true 4 (t 3)), l 7 2, o 8 (b .sub (t 7) (k 1)), o 9 (.callf 55 [(t 5), (t 6), (t 8)]), o 10 (.un .not (t 9)), m 4 10])
 .ret)), false⟩
/-- slices.IndexFunc[[]foreman/snap.field,foreman/snap.field] -/
def a73 : AFn := ⟨19, [.tmp 4],
 (.seq (.reg [o 4 (.mv (k 0))])
 (.seq (.seq (.reg [m 6 0, o 7 (.len 1 (t 6)), o 8 (.mv (k 0))])
 (.blk 0 (.loop (.seq (.reg [o 9 (b .lss (t 8) (t 7))])
 (.seq (.cond (t 9)
 .skip
 (.exit 0))
 (.seq (.blk 1 (.seq (.reg [m 10 8, m 5 10])
 (.seq (.reg [m 11 1, m 12 0, m 13 5, o 14 (.iaS 3 (t 12) (t 13)), o 15 (.load true 3 (t 14)), o 16 (.callv (t 11) [(t 15)])])
 (.cond (t 16)
 (.seq (.reg [m 17 5, m 4 17])
 .ret)
 .skip))))
 (.reg [o 18 (b .add (t 8) (k 1)), m 8 18])))))))
 (.seq (.reg [o 4 (.mv (k (-1)))])
 .ret))), false⟩
/-- strings.Trim -/
def a74 : AFn := ⟨43, [.tmp 4],
 (.seq (.reg [o 4 (.mv (.c (.d (.s []))))])
 (.seq (.seq (.reg [m 7 0, o 8 (b .eql (t 7) (.c (.d (.s [])))), m 9 8, mg 10 1 9 false, og 11 (b .eql (t 10) (.c (.d (.s [])))) 9 false, o 12 (.pick (t 9) (.c (.d (.b true))) (t 11))])
 (.cond (t 12)
 (.seq (.reg [m 13 0, m 4 13])
 .ret)
 .skip))
 (.seq (.seq (.reg [m 14 1, o 15 (.len 0 (t 14)), o 16 (b .eql (t 15) (k 1)), m 17 16, mg 18 1 17 true, og 19 (.ixS (t 18) (k 0)) 17 true, og 20 (b .lss (t 19) (.c (.d (.i .u8 128)))) 17 true, o 21 (.pick (t 17) (t 20) (.c (.d (.b false))))])
 (.cond (t 21)
 (.seq (.dreg 0 [⟨m 22 0, 0, false, [], none⟩, ⟨m 23 1, 1, false, [], none⟩, ⟨o 24 (.ixS (t 23) (k 0)), 2, false, [], none⟩, ⟨o 25 (.callf 80 [(t 22), (t 24)]), 3, true, [], none⟩, ⟨m 26 1, 4, false, [], none⟩, ⟨o 27 (.ixS (t 26) (k 0)), 5, false, [], none⟩, ⟨o 28 (.callf 79 [(t 25), (t 27)]), 6, true, [], none⟩, ⟨m 4 28, 7, false, [6, 3], none⟩])
 .ret)
 .skip))
 (.seq (.seq (.reg [m 30 1, o 31 (.callf 81 [(t 30)]), m 29 31, o 32 (.extr (t 29) 0), o 33 (.extr (t 29) 1), o 5 (.alloc 138 [(.d (.b false)), (.d (.b false)), (.d (.b false)), (.d (.b false)), (.d (.b false)), (.d (.b false)), (.d (.b false)), (.d (.b false)), (.d (.b false)), (.d (.b false)), (.d (.b false)), (.d (.b false)), (.d (.b false)), (.d (.b false)), (.d (.b false)), (.d (.b false)), (.d (.b false)), (.d (.b false)), (.d (.b false)), (.d (.b false)), (.d (.b false)), (.d (.b false)), (.d (.b false)), (.d (.b false)), (.d (.b false)), (.d (.b false)), (.d (.b false)), (.d (.b false)), (.d (.b false)), (.d (.b false)), (.d (.b false)), (.d (.b false)), (.d (.b false)), (.d (.b false)), (.d (.b false)), (.d (.b false)), (.d (.b false)), (.d (.b false)), (.d (.b false)), (.d (.b false)), (.d (.b false)), (.d (.b false)), (.d (.b false)), (.d (.b false)), (.d (.b false)), (.d (.b false)), (.d (.b false)), (.d (.b false)), (.d (.b false)), (.d (.b false)), (.d (.b false)), (.d (.b false)), (.d (.b false)), (.d (.b false)), (.d (.b false)), (.d (.b false)), (.d (.b false)), (.d (.b false)), (.d (.b false)), (.d (.b false)), (.d (.b false)), (.d (.b false)), (.d (.b false)), (.d (.b false)), (.d (.b false)), (.d (.b false)), (.d (.b false)), (.d (.b false)), (.d (.b false)), (.d (.b false)), (.d (.b false)), (.d (.b false)), (.d (.b false)), (.d (.b false)), (.d (.b false)), (.d (.b false)), (.d (.b false)), (.d (.b false)), (.d (.b false)), (.d (.b false)), (.d (.b false)), (.d (.b false)), (.d (.b false)), (.d (.b false)), (.d (.b false)), (.d (.b false)), (.d (.b false)), (.d (.b false)), (.d (.b false)), (.d (.b false)), (.d (.b false)), (.d (.b false)), (.d (.b false)), (.d (.b false)), (.d (.b false)), (.d (.b false)), (.d (.b false)), (.d (.b false)), (.d (.b false)), (.d (.b false)), (.d (.b false)), (.d (.b false)), (.d (.b false)), (.d (.b false)), (.d (.b false)), (.d (.b false)), (.d (.b false)), (.d (.b false)), (.d (.b false)), (.d (.b false)), (.d (.b false)), (.d (.b false)), (.d (.b false)), (.d (.b false)), (.d (.b false)), (.d (.b false)), (.d (.b false)), (.d (.b false)), (.d (.b false)), (.d (.b false)), (.d (.b false)), (.d (.b false)), (.d (.b false)), (.d (.b false)), (.d (.b false)), (.d (.b false)), (.d (.b false)), (.d (.b false)), (.d (.b false)), (.d (.b false)), (.d (.b false)), (.d (.b false)), (.d (.b false)), (.d (.b false)), (.d (.b false)), (.d (.b false)), (.d (.b false)), (.d (.b false)), (.d (.b false)), (.d (.b false)), (.d (.b false)), (.d (.b false)), (.d (.b false)), (.d (.b false)), (.d (.b false)), (.d (.b false)), (.d (.b false)), (.d (.b false)), (.d (.b false)), (.d (.b false)), (.d (.b false)), (.d (.b false)), (.d (.b false)), (.d (.b false)), (.d (.b false)), (.d (.b false)), (.d (.b false)), (.d (.b false)), (.d (.b false)), (.d (.b false)), (.d (.b false)), (.d (.b false)), (.d (.b false)), (.d (.b false)), (.d (.b false)), (.d (.b false)), (.d (.b false)), (.d (.b false)), (.d (.b false)), (.d (.b false)), (.d (.b false)), (.d (.b false)), (.d (.b false)), (.d (.b false)), (.d (.b false)), (.d (.b false)), (.d (.b false)), (.d (.b false)), (.d (.b false)), (.d (.b false)), (.d (.b false)), (.d (.b false)), (.d (.b false)), (.d (.b false)), (.d (.b false)), (.d (.b false)), (.d (.b false)), (.d (.b false)), (.d (.b false)), (.d (.b false)), (.d (.b false)), (.d (.b false)), (.d (.b false)), (.d (.b false)), (.d (.b false)), (.d (.b false)), (.d (.b false)), (.d (.b false)), (.d (.b false)), (.d (.b false)), (.d (.b false)), (.d (.b false)), (.d (.b false)), (.d (.b false)), (.d (.b false)), (.d (.b false)), (.d (.b false)), (.d (.b false)), (.d (.b false)), (.d (.b false)), (.d (.b false)), (.d (.b false)), (.d (.b false)), (.d (.b false)), (.d (.b false)), (.d (.b false)), (.d (.b false)), (.d (.b false)), (.d (.b false)), (.d (.b false)), (.d (.b false)), (.d (.b false)), (.d (.b false)), (.d (.b false)), (.d (.b false)), (.d (.b false)), (.d (.b false)), (.d (.b false)), (.d (.b false)), (.d (.b false)), (.d (.b false)), (.d (.b false)), (.d (.b false)), (.d (.b false)), (.d (.b false)), (.d (.b false)), (.d (.b false)), (.d (.b false)), (.d (.b false)), (.d (.b false)), (.d (.b false)), (.d (.b false)), (.d (.b false)), (.d (.b false)), (.d (.b false)), (.d (.b false)), (.d (.b false)), (.d (.b false)), (.d (.b false)), (.d (.b false)), (.d (.b false)), (.d (.b false)), (.d (.b false)), (.d (.b false)), (.d (.b false)), (.d (.b false))]), u (.store 256 (t 5) (t 32)), m 6 33])
 (.seq (.reg [m 34 6])
 (.cond (t 34)
 (.seq (.reg [m 35 0, o 36 (.callf 83 [(t 35), (t 5)]), o 37 (.callf 82 [(t 36), (t 5)]), m 4 37])
 .ret)
 .skip)))
 (.seq (.reg [m 38 0, m 39 1, o 40 (.callf 85 [(t 38), (t 39)]), m 41 1, o 42 (.callf 84 [(t 40), (t 41)]), m 4 42])
 .ret))))), false⟩
/-- slices.IndexFunc[[]int,int] -/
def a75 : AFn := ⟨19, [.tmp 4],
 (.seq (.reg [o 4 (.mv (k 0))])
 (.seq (.seq (.reg [m 6 0, o 7 (.len 1 (t 6)), o 8 (.mv (k 0))])
 (.blk 0 (.loop (.seq (.reg [o 9 (b .lss (t 8) (t 7))])
 (.seq (.cond (t 9)
 .skip
 (.exit 0))
 (.seq (.blk 1 (.seq (.reg [m 10 8, m 5 10])
 (.seq (.reg [m 11 1, m 12 0, m 13 5, o 14 (.iaS 1 (t 12) (t 13)), l 15 14, o 16 (.callv (t 11) [(t 15)])])
 (.cond (t 16)
 (.seq (.reg [m 17 5, m 4 17])
 .ret)
 .skip))))
 (.reg [o 18 (b .add (t 8) (k 1)), m 8 18])))))))
 (.seq (.reg [o 4 (.mv (k (-1)))])
 .ret))), false⟩
/-- slices.IndexFunc[[]string,string] -/
def a76 : AFn := ⟨19, [.tmp 4],
 (.seq (.reg [o 4 (.mv (k 0))])
 (.seq (.seq (.reg [m 6 0, o 7 (.len 1 (t 6)), o 8 (.mv (k 0))])
 (.blk 0 (.loop (.seq (.reg [o 9 (b .lss (t 8) (t 7))])
 (.seq (.cond (t 9)
 .skip
 (.exit 0))
 (.seq (.blk 1 (.seq (.reg [m 10 8, m 5 10])
 (.seq (.reg [m 11 1, m 12 0, m 13 5, o 14 (.iaS 1 (t 12) (t 13)), l 15 14, o 16 (.callv (t 11) [(t 15)])])
 (.cond (t 16)
 (.seq (.reg [m 17 5, m 4 17])
 .ret)
 .skip))))
 (.reg [o 18 (b .add (t 8) (k 1)), m 8 18])))))))
 (.seq (.reg [o 4 (.mv (k (-1)))])
 .ret))), false⟩
/-- strings.indexFunc -/
def a77 : AFn := ⟨21, [.tmp 6],
 (.seq (.reg [o 6 (.mv (k 0))])
 (.seq (.seq (.reg [m 9 0, o 10 (.rng true (t 9))])
 (.blk 0 (.loop (.seq (.reg [o 11 (.nxt true (t 10)), o 12 (.extr (t 11) 0)])
 (.seq (.cond (t 12)
 .skip
 (.exit 0))
 (.blk 1 (.seq (.reg [o 13 (.extr (t 11) 1), o 14 (.extr (t 11) 2), m 7 13, m 8 14])
 (.seq (.reg [m 15 1, m 16 8, o 17 (.callv (t 15) [(t 16)]), m 18 2, o 19 (.bin .eql .bool (t 17) (t 18))])
 (.cond (t 19)
 (.seq (.reg [m 20 7, m 6 20])
 .ret)
 .skip)))))))))
 (.seq (.reg [o 6 (.mv (k (-1)))])
 .ret))), false⟩
/-- slices.IndexFunc[[]foreman/api.Value,foreman/api.Value] -/
def a78 : AFn := ⟨19, [.tmp 4],
 (.seq (.reg [o 4 (.mv (k 0))])
 (.seq (.seq (.reg [m 6 0, o 7 (.len 1 (t 6)), o 8 (.mv (k 0))])
 (.blk 0 (.loop (.seq (.reg [o 9 (b .lss (t 8) (t 7))])
 (.seq (.cond (t 9)
 .skip
 (.exit 0))
 (.seq (.blk 1 (.seq (.reg [m 10 8, m 5 10])
 (.seq (.reg [m 11 1, m 12 0, m 13 5, o 14 (.iaS 4 (t 12) (t 13)), o 15 (.load true 4 (t 14)), o 16 (.callv (t 11) [(t 15)])])
 (.cond (t 16)
 (.seq (.reg [m 17 5, m 4 17])
 .ret)
 .skip))))
 (.reg [o 18 (b .add (t 8) (k 1)), m 8 18])))))))
 (.seq (.reg [o 4 (.mv (k (-1)))])
 .ret))), false⟩
/-- strings.trimLeftByte -/
def a79 : AFn := ⟨17, [.tmp 4],
 (.seq (.reg [o 4 (.mv (.c (.d (.s []))))])
 (.seq (.blk 0 (.loop (.seq (.seq (.reg [m 5 0, o 6 (.len 0 (t 5)), o 7 (b .gtr (t 6) (k 0)), m 8 7, mg 9 0 8 true, og 10 (.ixS (t 9) (k 0)) 8 true, mg 11 1 8 true, og 12 (b .eql (t 10) (t 11)) 8 true, o 13 (.pick (t 8) (t 12) (.c (.d (.b false))))])
 (.cond (t 13)
 .skip
 (.exit 0)))
 (.blk 1 (.reg [m 14 0, o 15 (.slStr (t 14) (some (k 1)) none), m 0 15])))))
 (.seq (.reg [m 16 0, m 4 16])
 .ret))), false⟩
/-- strings.trimRightByte -/
def a80 : AFn := ⟨23, [.tmp 4],
 (.seq (.reg [o 4 (.mv (.c (.d (.s []))))])
 (.seq (.blk 0 (.loop (.seq (.seq (.reg [m 5 0, o 6 (.len 0 (t 5)), o 7 (b .gtr (t 6) (k 0)), m 8 7, mg 9 0 8 true, mg 10 0 8 true, og 11 (.len 0 (t 10)) 8 true, og 12 (b .sub (t 11) (k 1)) 8 true, og 13 (.ixS (t 9) (t 12)) 8 true, mg 14 1 8 true, og 15 (b .eql (t 13) (t 14)) 8 true, o 16 (.pick (t 8) (t 15) (.c (.d (.b false))))])
 (.cond (t 16)
 .skip
 (.exit 0)))
 (.blk 1 (.reg [m 17 0, m 18 0, o 19 (.len 0 (t 18)), o 20 (b .sub (t 19) (k 1)), o 21 (.slStr (t 17) none (some (t 20))), m 0 21])))))
 (.seq (.reg [m 22 0, m 4 22])
 .ret))), false⟩
/-- strings.makeASCIISet -/
def a81 : AFn := ⟨21, [.cell 2 true 256, .tmp 3],
 (.seq (.reg [o 2 (.alloc 138 [(.d (.b false)), (.d (.b false)), (.d (.b false)), (.d (.b false)), (.d (.b false)), (.d (.b false)), (.d (.b false)), (.d (.b false)), (.d (.b false)), (.d (.b false)), (.d (.b false)), (.d (.b false)), (.d (.b false)), (.d (.b false)), (.d (.b false)), (.d (.b false)), (.d (.b false)), (.d (.b false)), (.d (.b false)), (.d (.b false)), (.d (.b false)), (.d (.b false)), (.d (.b false)), (.d (.b false)), (.d (.b false)), (.d (.b false)), (.d (.b false)), (.d (.b false)), (.d (.b false)), (.d (.b false)), (.d (.b false)), (.d (.b false)), (.d (.b false)), (.d (.b false)), (.d (.b false)), (.d (.b false)), (.d (.b false)), (.d (.b false)), (.d (.b false)), (.d (.b false)), (.d (.b false)), (.d (.b false)), (.d (.b false)), (.d (.b false)), (.d (.b false)), (.d (.b false)), (.d (.b false)), (.d (.b false)), (.d (.b false)), (.d (.b false)), (.d (.b false)), (.d (.b false)), (.d (.b false)), (.d (.b false)), (.d (.b false)), (.d (.b false)), (.d (.b false)), (.d (.b false)), (.d (.b false)), (.d (.b false)), (.d (.b false)), (.d (.b false)), (.d (.b false)), (.d (.b false)), (.d (.b false)), (.d (.b false)), (.d (.b false)), (.d (.b false)), (.d (.b false)), (.d (.b false)), (.d (.b false)), (.d (.b false)), (.d (.b false)), (.d (.b false)), (.d (.b false)), (.d (.b false)), (.d (.b false)), (.d (.b false)), (.d (.b false)), (.d (.b false)), (.d (.b false)), (.d (.b false)), (.d (.b false)), (.d (.b false)), (.d (.b false)), (.d (.b false)), (.d (.b false)), (.d (.b false)), (.d (.b false)), (.d (.b false)), (.d (.b false)), (.d (.b false)), (.d (.b false)), (.d (.b false)), (.d (.b false)), (.d (.b false)), (.d (.b false)), (.d (.b false)), (.d (.b false)), (.d (.b false)), (.d (.b false)), (.d (.b false)), (.d (.b false)), (.d (.b false)), (.d (.b false)), (.d (.b false)), (.d (.b false)), (.d (.b false)), (.d (.b false)), (.d (.b false)), (.d (.b false)), (.d (.b false)), (.d (.b false)), (.d (.b false)), (.d (.b false)), (.d (.b false)), (.d (.b false)), (.d (.b false)), (.d (.b false)), (.d (.b false)), (.d (.b false)), (.d (.b false)), (.d (.b false)), (.d (.b false)), (.d (.b false)), (.d (.b false)), (.d (.b false)), (.d (.b false)), (.d (.b false)), (.d (.b false)), (.d (.b false)), (.d (.b false)), (.d (.b false)), (.d (.b false)), (.d (.b false)), (.d (.b false)), (.d (.b false)), (.d (.b false)), (.d (.b false)), (.d (.b false)), (.d (.b false)), (.d (.b false)), (.d (.b false)), (.d (.b false)), (.d (.b false)), (.d (.b false)), (.d (.b false)), (.d (.b false)), (.d (.b false)), (.d (.b false)), (.d (.b false)), (.d (.b false)), (.d (.b false)), (.d (.b false)), (.d (.b false)), (.d (.b false)), (.d (.b false)), (.d (.b false)), (.d (.b false)), (.d (.b false)), (.d (.b false)), (.d (.b false)), (.d (.b false)), (.d (.b false)), (.d (.b false)), (.d (.b false)), (.d (.b false)), (.d (.b false)), (.d (.b false)), (.d (.b false)), (.d (.b false)), (.d (.b false)), (.d (.b false)), (.d (.b false)), (.d (.b false)), (.d (.b false)), (.d (.b false)), (.d (.b false)), (.d (.b false)), (.d (.b false)), (.d (.b false)), (.d (.b false)), (.d (.b false)), (.d (.b false)), (.d (.b false)), (.d (.b false)), (.d (.b false)), (.d (.b false)), (.d (.b false)), (.d (.b false)), (.d (.b false)), (.d (.b false)), (.d (.b false)), (.d (.b false)), (.d (.b false)), (.d (.b false)), (.d (.b false)), (.d (.b false)), (.d (.b false)), (.d (.b false)), (.d (.b false)), (.d (.b false)), (.d (.b false)), (.d (.b false)), (.d (.b false)), (.d (.b false)), (.d (.b false)), (.d (.b false)), (.d (.b false)), (.d (.b false)), (.d (.b false)), (.d (.b false)), (.d (.b false)), (.d (.b false)), (.d (.b false)), (.d (.b false)), (.d (.b false)), (.d (.b false)), (.d (.b false)), (.d (.b false)), (.d (.b false)), (.d (.b false)), (.d (.b false)), (.d (.b false)), (.d (.b false)), (.d (.b false)), (.d (.b false)), (.d (.b false)), (.d (.b false)), (.d (.b false)), (.d (.b false)), (.d (.b false)), (.d (.b false)), (.d (.b false)), (.d (.b false)), (.d (.b false)), (.d (.b false)), (.d (.b false)), (.d (.b false)), (.d (.b false)), (.d (.b false)), (.d (.b false)), (.d (.b false)), (.d (.b false)), (.d (.b false)), (.d (.b false)), (.d (.b false)), (.d (.b false)), (.d (.b false)), (.d (.b false)), (.d (.b false)), (.d (.b false)), (.d (.b false)), (.d (.b false)), (.d (.b false)), (.d (.b false))]), o 3 (.mv (.c (.d (.b false))))])
 (.seq (.seq (.reg [o 4 (.mv (k 0))])
 (.blk 0 (.loop (.seq (.seq (.reg [m 6 4, m 7 0, o 8 (.len 0 (t 7)), o 9 (b .lss (t 6) (t 8))])
 (.cond (t 9)
 .skip
 (.exit 0)))
 (.seq (.blk 1 (.seq (.reg [m 12 0, m 13 4, o 14 (.ixS (t 12) (t 13)), m 5 14])
 (.seq (.seq (.reg [m 15 5, o 16 (b .geq (t 15) (.c (.d (.i .u8 128))))])
 (.cond (t 16)
 (.seq (.reg [o 17 (.load true 256 (t 2)), u (.store 256 (t 2) (t 17)), o 3 (.mv (.c (.d (.b false))))])
 .ret)
 .skip))
 (.reg [m 18 5, o 19 (.iaA 256 1 (t 2) (t 18)), u (.store 1 (t 19) (.c (.d (.b true))))]))))
 (.reg [m 10 4, o 11 (b .add (t 10) (k 1)), m 4 11]))))))
 (.seq (.reg [o 20 (.load true 256 (t 2)), u (.store 256 (t 2) (t 20)), o 3 (.mv (.c (.d (.b true))))])
 .ret))), false⟩
/-- strings.trimLeftASCII -/
def a82 : AFn := ⟨16, [.tmp 4],
 (.seq (.reg [o 4 (.mv (.c (.d (.s []))))])
 (.seq (.blk 0 (.loop (.seq (.seq (.reg [m 5 0, o 6 (.len 0 (t 5)), o 7 (b .gtr (t 6) (k 0))])
 (.cond (t 7)
 .skip
 (.exit 0)))
 (.blk 1 (.seq (.seq (.reg [m 8 1, m 9 0, o 10 (.ixS (t 9) (k 0)), o 11 (.callf 86 [(t 8), (t 10)]), o 12 (.un .not (t 11))])
 (.cond (t 12)
 (.exit 0)
 .skip))
 (.reg [m 13 0, o 14 (.slStr (t 13) (some (k 1)) none), m 0 14]))))))
 (.seq (.reg [m 15 0, m 4 15])
 .ret))), false⟩
/-- strings.trimRightASCII -/
def a83 : AFn := ⟨22, [.tmp 4],
 (.seq (.reg [o 4 (.mv (.c (.d (.s []))))])
 (.seq (.blk 0 (.loop (.seq (.seq (.reg [m 5 0, o 6 (.len 0 (t 5)), o 7 (b .gtr (t 6) (k 0))])
 (.cond (t 7)
 .skip
 (.exit 0)))
 (.blk 1 (.seq (.seq (.reg [m 8 1, m 9 0, m 10 0, o 11 (.len 0 (t 10)), o 12 (b .sub (t 11) (k 1)), o 13 (.ixS (t 9) (t 12)), o 14 (.callf 86 [(t 8), (t 13)]), o 15 (.un .not (t 14))])
 (.cond (t 15)
 (.exit 0)
 .skip))
 (.reg [m 16 0, m 17 0, o 18 (.len 0 (t 17)), o 19 (b .sub (t 18) (k 1)), o 20 (.slStr (t 16) none (some (t 19))), m 0 20]))))))
 (.seq (.reg [m 21 0, m 4 21])
 .ret))), false⟩
/-- strings.trimLeftUnicode -/
def a84 : AFn := ⟨23, [.tmp 4],
 (.seq (.reg [o 4 (.mv (.c (.d (.s []))))])
 (.seq (.blk 0 (.loop (.seq (.seq (.reg [m 7 0, o 8 (.len 0 (t 7)), o 9 (b .gtr (t 8) (k 0))])
 (.cond (t 9)
 .skip
 (.exit 0)))
 (.blk 1 (.seq (.reg [m 11 0, o 12 (.callf 87 [(t 11)]), m 10 12, o 13 (.extr (t 10) 0), o 14 (.extr (t 10) 1), m 5 13, m 6 14])
 (.seq (.seq (.reg [m 15 1, m 16 5, o 17 (.callf 88 [(t 15), (t 16)]), o 18 (.un .not (t 17))])
 (.cond (t 18)
 (.exit 0)
 .skip))
 (.reg [m 19 0, m 20 6, o 21 (.slStr (t 19) (some (t 20)) none), m 0 21])))))))
 (.seq (.reg [m 22 0, m 4 22])
 .ret))), false⟩
/-- strings.trimRightUnicode -/
def a85 : AFn := ⟨34, [.tmp 4],
 (.seq (.reg [o 4 (.mv (.c (.d (.s []))))])
 (.seq (.blk 0 (.loop (.seq (.seq (.reg [m 7 0, o 8 (.len 0 (t 7)), o 9 (b .gtr (t 8) (k 0))])
 (.cond (t 9)
 .skip
 (.exit 0)))
 (.blk 1 (.seq (.reg [m 10 0, m 11 0, o 12 (.len 0 (t 11)), o 13 (b .sub (t 12) (k 1)), o 14 (.ixS (t 10) (t 13)), o 15 (.cvi .i32 (t 14)), m 5 15, o 6 (.mv (k 1))])
 (.seq (.seq (.reg [m 16 5, o 17 (b .geq (t 16) (.c (.d (.i .i32 128))))])
 (.cond (t 17)
 (.reg [m 19 0, o 20 (.callf 89 [(t 19)]), m 18 20, o 21 (.extr (t 18) 0), o 22 (.extr (t 18) 1), m 5 21, m 6 22])
 .skip))
 (.seq (.seq (.reg [m 23 1, m 24 5, o 25 (.callf 88 [(t 23), (t 24)]), o 26 (.un .not (t 25))])
 (.cond (t 26)
 (.exit 0)
 .skip))
 (.reg [m 27 0, m 28 0, o 29 (.len 0 (t 28)), m 30 6, o 31 (b .sub (t 29) (t 30)), o 32 (.slStr (t 27) none (some (t 31))), m 0 32]))))))))
 (.seq (.reg [m 33 0, m 4 33])
 .ret))), false⟩
/-- (*strings.asciiSet).contains -/
def a86 : AFn := ⟨10, [.tmp 4],
 (.seq (.reg [o 4 (.mv (.c (.d (.b false))))])
 (.seq (.reg [m 5 0, m 6 1, o 7 (.nilchk (t 5)), o 8 (.iaA 256 1 (t 7) (t 6)), l 9 8, m 4 9])
 .ret)), false⟩
/-- unicode/utf8.DecodeRuneInString -/
def a87 : AFn := ⟨19, [.tmp 2, .tmp 3],
 (.seq (.reg [o 2 (.mv (.c (.d (.i .i32 0)))), o 3 (.mv (k 0))])
 (.seq (.seq (.reg [m 4 0, o 5 (b .neq (t 4) (.c (.d (.s [])))), m 6 5, mg 7 0 6 true, og 8 (.ixS (t 7) (k 0)) 6 true, og 9 (b .lss (t 8) (.c (.d (.i .u8 128)))) 6 true, o 10 (.pick (t 6) (t 9) (.c (.d (.b false))))])
 (.cond (t 10)
 (.seq (.reg [m 11 0, o 12 (.ixS (t 11) (k 0)), o 13 (.cvi .i32 (t 12)), m 2 13, o 3 (.mv (k 1))])
 .ret)
 (.reg [m 15 0, o 16 (.callf 90 [(t 15)]), m 14 16, o 17 (.extr (t 14) 0), o 18 (.extr (t 14) 1), m 2 17, m 3 18])))
 .ret)), false⟩
/-- strings.ContainsRune -/
def a88 : AFn := ⟨9, [.tmp 4],
 (.seq (.reg [o 4 (.mv (.c (.d (.b false))))])
 (.seq (.reg [m 5 0, m 6 1, o 7 (.callf 91 [(t 5), (t 6)]), o 8 (b .geq (t 7) (k 0)), m 4 8])
 .ret)), false⟩
/-- unicode/utf8.DecodeLastRuneInString -/
def a89 : AFn := ⟨51, [.tmp 2, .tmp 3],
 (.seq (.reg [o 2 (.mv (.c (.d (.i .i32 0)))), o 3 (.mv (k 0))])
 (.seq (.reg [m 7 0, o 8 (.len 0 (t 7)), m 4 8])
 (.seq (.seq (.reg [m 9 4, o 10 (b .eql (t 9) (k 0))])
 (.cond (t 10)
 (.seq (.reg [o 2 (.mv (.c (.d (.i .i32 65533)))), o 3 (.mv (k 0))])
 .ret)
 .skip))
 (.seq (.reg [m 11 4, o 12 (b .sub (t 11) (k 1)), m 5 12])
 (.seq (.reg [m 13 0, m 14 5, o 15 (.ixS (t 13) (t 14)), o 16 (.cvi .i32 (t 15)), m 2 16])
 (.seq (.seq (.reg [m 17 2, o 18 (b .lss (t 17) (.c (.d (.i .i32 128))))])
 (.cond (t 18)
 (.seq (.reg [m 19 2, m 2 19, o 3 (.mv (k 1))])
 .ret)
 .skip))
 (.seq (.reg [m 20 4, o 21 (b .sub (t 20) (k 4)), o 22 (.mx [(t 21), (k 0)]), m 6 22])
 (.seq (.seq (.reg [m 23 5, o 24 (b .sub (t 23) (k 1)), m 5 24])
 (.blk 0 (.loop (.seq (.seq (.reg [m 25 5, m 26 6, o 27 (b .geq (t 25) (t 26))])
 (.cond (t 27)
 .skip
 (.exit 0)))
 (.seq (.blk 1 (.seq (.reg [m 30 0, m 31 5, o 32 (.ixS (t 30) (t 31)), o 33 (.callf 92 [(t 32)])])
 (.cond (t 33)
 (.exit 0)
 .skip)))
 (.reg [m 28 5, o 29 (b .sub (t 28) (k 1)), m 5 29]))))))
 (.seq (.seq (.reg [m 34 5, o 35 (b .lss (t 34) (k 0))])
 (.cond (t 35)
 (.reg [o 5 (.mv (k 0))])
 .skip))
 (.seq (.reg [m 37 0, m 38 5, m 39 4, o 40 (.slStr (t 37) (some (t 38)) (some (t 39))), o 41 (.callf 87 [(t 40)]), m 36 41, o 42 (.extr (t 36) 0), o 43 (.extr (t 36) 1), m 2 42, m 3 43])
 (.seq (.seq (.reg [m 44 5, m 45 3, o 46 (b .add (t 44) (t 45)), m 47 4, o 48 (b .neq (t 46) (t 47))])
 (.cond (t 48)
 (.seq (.reg [o 2 (.mv (.c (.d (.i .i32 65533)))), o 3 (.mv (k 1))])
 .ret)
 .skip))
 (.seq (.reg [m 49 2, m 50 3, m 2 49, m 3 50])
 .ret)))))))))))), false⟩
/-- unicode/utf8.decodeRuneInStringSlow -/
def a90 : AFn := ⟨117, [.tmp 2, .tmp 3],
 (.seq (.reg [o 2 (.mv (.c (.d (.i .i32 0)))), o 3 (.mv (k 0))])
 (.seq (.reg [m 13 0, o 14 (.len 0 (t 13)), m 4 14])
 (.seq (.seq (.reg [m 15 4, o 16 (b .lss (t 15) (k 1))])
 (.cond (t 16)
 (.seq (.reg [o 2 (.mv (.c (.d (.i .i32 65533)))), o 3 (.mv (k 0))])
 .ret)
 .skip))
 (.seq (.reg [m 17 0, o 18 (.ixS (t 17) (k 0)), m 5 18])
 (.seq (.reg [m 19 5, o 20 (.iaA 256 1 (.c (.glob 1 0)) (t 19)), l 21 20, m 6 21])
 (.seq (.seq (.reg [m 22 6, o 23 (b .geq (t 22) (.c (.d (.i .u8 240))))])
 (.cond (t 23)
 (.seq (.reg [m 24 6, o 25 (.cvi .i32 (t 24)), o 26 (b .shl (t 25) (.c (.d (.i .u64 31)))), o 27 (b .shr (t 26) (.c (.d (.i .u64 31)))), m 7 27])
 (.seq (.reg [m 28 0, o 29 (.ixS (t 28) (k 0)), o 30 (.cvi .i32 (t 29)), m 31 7, o 32 (b .andNot (t 30) (t 31)), m 33 7, o 34 (b .and (.c (.d (.i .i32 65533))) (t 33)), o 35 (b .or (t 32) (t 34)), m 2 35, o 3 (.mv (k 1))])
 .ret))
 .skip))
 (.seq (.reg [m 36 6, o 37 (b .and (t 36) (.c (.d (.i .u8 7)))), o 38 (.cvi .i64 (t 37)), m 8 38])
 (.seq (.reg [m 39 6, o 40 (b .shr (t 39) (.c (.d (.i .u64 4)))), o 41 (.iaA 16 2 (.c (.glob 2 0)) (t 40)), o 42 (.load true 2 (t 41)), o 9 (.alloc 149 [(.d (.i .u8 0)), (.d (.i .u8 0))]), u (.store 2 (t 9) (t 42))])
 (.seq (.seq (.reg [m 43 4, m 44 8, o 45 (b .lss (t 43) (t 44))])
 (.cond (t 45)
 (.seq (.reg [o 2 (.mv (.c (.d (.i .i32 65533)))), o 3 (.mv (k 1))])
 .ret)
 .skip))
 (.seq (.reg [m 46 0, o 47 (.ixS (t 46) (k 1)), m 10 47])
 (.seq (.seq (.reg [m 48 10, o 49 (.fadd 0 (t 9)), l 50 49, o 51 (b .lss (t 48) (t 50)), m 52 51, og 53 (.fadd 1 (t 9)) 52 false, lg 54 53 52 false, mg 55 10 52 false, og 56 (b .lss (t 54) (t 55)) 52 false, o 57 (.pick (t 52) (.c (.d (.b true))) (t 56))])
 (.cond (t 57)
 (.seq (.reg [o 2 (.mv (.c (.d (.i .i32 65533)))), o 3 (.mv (k 1))])
 .ret)
 .skip))
 (.seq (.seq (.reg [m 58 8, o 59 (b .leq (t 58) (k 2))])
 (.cond (t 59)
 (.seq (.reg [m 60 5, o 61 (b .and (t 60) (.c (.d (.i .u8 31)))), o 62 (.cvi .i32 (t 61)), o 63 (b .shl (t 62) (.c (.d (.i .u64 6)))), m 64 10, o 65 (b .and (t 64) (.c (.d (.i .u8 63)))), o 66 (.cvi .i32 (t 65)), o 67 (b .or (t 63) (t 66)), m 2 67, o 3 (.mv (k 2))])
 .ret)
 .skip))
 (.seq (.reg [m 68 0, o 69 (.ixS (t 68) (k 2)), m 11 69])
 (.seq (.seq (.reg [m 70 11, o 71 (b .lss (t 70) (.c (.d (.i .u8 128)))), m 72 71, mg 73 11 72 false, og 74 (b .lss (.c (.d (.i .u8 191))) (t 73)) 72 false, o 75 (.pick (t 72) (.c (.d (.b true))) (t 74))])
 (.cond (t 75)
 (.seq (.reg [o 2 (.mv (.c (.d (.i .i32 65533)))), o 3 (.mv (k 1))])
 .ret)
 .skip))
 (.seq (.seq (.reg [m 76 8, o 77 (b .leq (t 76) (k 3))])
 (.cond (t 77)
 (.seq (.reg [m 78 5, o 79 (b .and (t 78) (.c (.d (.i .u8 15)))), o 80 (.cvi .i32 (t 79)), o 81 (b .shl (t 80) (.c (.d (.i .u64 12)))), m 82 10, o 83 (b .and (t 82) (.c (.d (.i .u8 63)))), o 84 (.cvi .i32 (t 83)), o 85 (b .shl (t 84) (.c (.d (.i .u64 6)))), o 86 (b .or (t 81) (t 85)), m 87 11, o 88 (b .and (t 87) (.c (.d (.i .u8 63)))), o 89 (.cvi .i32 (t 88)), o 90 (b .or (t 86) (t 89)), m 2 90, o 3 (.mv (k 3))])
 .ret)
 .skip))
 (.seq (.reg [m 91 0, o 92 (.ixS (t 91) (k 3)), m 12 92])
 (.seq (.seq (.reg [m 93 12, o 94 (b .lss (t 93) (.c (.d (.i .u8 128)))), m 95 94, mg 96 12 95 false, og 97 (b .lss (.c (.d (.i .u8 191))) (t 96)) 95 false, o 98 (.pick (t 95) (.c (.d (.b true))) (t 97))])
 (.cond (t 98)
 (.seq (.reg [o 2 (.mv (.c (.d (.i .i32 65533)))), o 3 (.mv (k 1))])
 .ret)
 .skip))
 (.seq (.reg [m 99 5, o 100 (b .and (t 99) (.c (.d (.i .u8 7)))), o 101 (.cvi .i32 (t 100)), o 102 (b .shl (t 101) (.c (.d (.i .u64 18)))), m 103 10, o 104 (b .and (t 103) (.c (.d (.i .u8 63)))), o 105 (.cvi .i32 (t 104)), o 106 (b .shl (t 105) (.c (.d (.i .u64 12)))), o 107 (b .or (t 102) (t 106)), m 108 11, o 109 (b .and (t 108) (.c (.d (.i .u8 63)))), o 110 (.cvi .i32 (t 109)), o 111 (b .shl (t 110) (.c (.d (.i .u64 6)))), o 112 (b .or (t 107) (t 111)), m 113 12, o 114 (b .and (t 113) (.c (.d (.i .u8 63)))), o 115 (.cvi .i32 (t 114)), o 116 (b .or (t 112) (t 115)), m 2 116, o 3 (.mv (k 4))])
 .ret)))))))))))))))))), false⟩
/-- strings.IndexRune -/
def a91 : AFn := ⟨187, [.tmp 4],
 (.seq (.reg [o 4 (.mv (k 0))])
 (.blk 0 (.seq (.reg [m 161 1, o 162 (b .leq (.c (.d (.i .i32 0))) (t 161)), m 163 162, mg 164 1 163 true, og 165 (b .lss (t 164) (.c (.d (.i .i32 128)))) 163 true, o 166 (.pick (t 163) (t 165) (.c (.d (.b false)))), m 160 166])
 (.cond (t 160)
 (.seq (.reg [m 167 0, m 168 1, o 169 (.cvi .u8 (t 168)), o 170 (.callf 93 [(t 167), (t 169)]), m 4 170])
 .ret)
 (.seq (.reg [m 172 1, o 173 (b .eql (t 172) (.c (.d (.i .i32 65533)))), m 171 173])
 (.cond (t 171)
 (.seq (.seq (.reg [m 174 0, o 175 (.rng true (t 174))])
 (.blk 9 (.loop (.seq (.reg [o 176 (.nxt true (t 175)), o 177 (.extr (t 176) 0)])
 (.seq (.cond (t 177)
 .skip
 (.exit 9))
 (.blk 10 (.seq (.reg [o 178 (.extr (t 176) 1), o 179 (.extr (t 176) 2), m 5 178, m 6 179])
 (.seq (.reg [m 180 6, o 181 (b .eql (t 180) (.c (.d (.i .i32 65533))))])
 (.cond (t 181)
 (.seq (.reg [m 182 5, m 4 182])
 .ret)
 .skip)))))))))
 (.seq (.reg [o 4 (.mv (k (-1)))])
 .ret))
 (.seq (.reg [m 184 1, o 185 (.callf 94 [(t 184)]), o 186 (.un .not (t 185)), m 183 186])
 (.cond (t 183)
 (.seq (.reg [o 4 (.mv (k (-1)))])
 .ret)
 .bad)))))))), false⟩
/-- unicode/utf8.RuneStart -/
def a92 : AFn := ⟨6, [.tmp 2],
 (.seq (.reg [o 2 (.mv (.c (.d (.b false))))])
 (.seq (.reg [m 3 0, o 4 (b .and (t 3) (.c (.d (.i .u8 192)))), o 5 (b .neq (t 4) (.c (.d (.i .u8 128)))), m 2 5])
 .ret)), false⟩
/-- strings.IndexByte -/
def a93 : AFn := ⟨8, [.tmp 4],
 (.seq (.reg [o 4 (.mv (k 0))])
 (.seq (.reg [m 5 0, m 6 1, o 7 (.callf 97 [(t 5), (t 6)]), m 4 7])
 .ret)), false⟩
/-- unicode/utf8.ValidRune -/
def a94 : AFn := ⟨17, [.tmp 2],
 (.seq (.reg [o 2 (.mv (.c (.d (.b false))))])
 (.seq (.blk 0 (.seq (.reg [m 4 0, o 5 (b .leq (.c (.d (.i .i32 0))) (t 4)), m 6 5, mg 7 0 6 true, og 8 (b .lss (t 7) (.c (.d (.i .i32 55296)))) 6 true, o 9 (.pick (t 6) (t 8) (.c (.d (.b false)))), m 3 9])
 (.cond (t 3)
 (.seq (.reg [o 2 (.mv (.c (.d (.b true))))])
 .ret)
 (.seq (.reg [m 11 0, o 12 (b .lss (.c (.d (.i .i32 57343))) (t 11)), m 13 12, mg 14 0 13 true, og 15 (b .leq (t 14) (.c (.d (.i .i32 1114111)))) 13 true, o 16 (.pick (t 13) (t 15) (.c (.d (.b false)))), m 10 16])
 (.cond (t 10)
 (.seq (.reg [o 2 (.mv (.c (.d (.b true))))])
 .ret)
 .skip)))))
 (.seq (.reg [o 2 (.mv (.c (.d (.b false))))])
 .ret))), false⟩
/-- internal/bytealg.Cutover -/
def a95 : AFn := ⟨6, [.tmp 2],
 (.seq (.reg [o 2 (.mv (k 0))])
 (.seq (.reg [m 3 0, o 4 (b .add (t 3) (k 16)), o 5 (b .quo (t 4) (k 8)), m 2 5])
 .ret)), false⟩
/-- internal/stringslite.IndexByte -/
def a97 : AFn := ⟨8, [.tmp 4],
 (.seq (.reg [o 4 (.mv (k 0))])
 (.seq (.reg [m 5 0, m 6 1, o 7 (.prim 98 .indexByte [(t 5), (t 6)]), m 4 7])
 .ret)), false⟩
def fnT : FT := (.node 50 a50 (.node 26 a26 (.node 14 a14 (.node 8 a8 (.node 5 a5 (.node 4 a4 (.node 3 a3 .leaf .leaf) .leaf) (.node 7 a7 (.node 6 a6 .leaf .leaf) .leaf)) (.node 11 a11 (.node 10 a10 (.node 9 a9 .leaf .leaf) .leaf) (.node 13 a13 (.node 12 a12 .leaf .leaf) .leaf))) (.node 20 a20 (.node 17 a17 (.node 16 a16 (.node 15 a15 .leaf .leaf) .leaf) (.node 19 a19 (.node 18 a18 .leaf .leaf) .leaf)) (.node 23 a23 (.node 22 a22 (.node 21 a21 .leaf .leaf) .leaf) (.node 25 a25 (.node 24 a24 .leaf .leaf) .leaf)))) (.node 38 a38 (.node 32 a32 (.node 29 a29 (.node 28 a28 (.node 27 a27 .leaf .leaf) .leaf) (.node 31 a31 (.node 30 a30 .leaf .leaf) .leaf)) (.node 35 a35 (.node 34 a34 (.node 33 a33 .leaf .leaf) .leaf) (.node 37 a37 (.node 36 a36 .leaf .leaf) .leaf))) (.node 44 a44 (.node 41 a41 (.node 40 a40 (.node 39 a39 .leaf .leaf) .leaf) (.node 43 a43 (.node 42 a42 .leaf .leaf) .leaf)) (.node 47 a47 (.node 46 a46 (.node 45 a45 .leaf .leaf) .leaf) (.node 49 a49 (.node 48 a48 .leaf .leaf) .leaf))))) (.node 74 a74 (.node 62 a62 (.node 56 a56 (.node 53 a53 (.node 52 a52 (.node 51 a51 .leaf .leaf) .leaf) (.node 55 a55 (.node 54 a54 .leaf .leaf) .leaf)) (.node 59 a59 (.node 58 a58 (.node 57 a57 .leaf .leaf) .leaf) (.node 61 a61 (.node 60 a60 .leaf .leaf) .leaf))) (.node 68 a68 (.node 65 a65 (.node 64 a64 (.node 63 a63 .leaf .leaf) .leaf) (.node 67 a67 (.node 66 a66 .leaf .leaf) .leaf)) (.node 71 a71 (.node 70 a70 (.node 69 a69 .leaf .leaf) .leaf) (.node 73 a73 (.node 72 a72 .leaf .leaf) .leaf)))) (.node 86 a86 (.node 80 a80 (.node 77 a77 (.node 76 a76 (.node 75 a75 .leaf .leaf) .leaf) (.node 79 a79 (.node 78 a78 .leaf .leaf) .leaf)) (.node 83 a83 (.node 82 a82 (.node 81 a81 .leaf .leaf) .leaf) (.node 85 a85 (.node 84 a84 .leaf .leaf) .leaf))) (.node 92 a92 (.node 89 a89 (.node 88 a88 (.node 87 a87 .leaf .leaf) .leaf) (.node 91 a91 (.node 90 a90 .leaf .leaf) .leaf)) (.node 95 a95 (.node 94 a94 (.node 93 a93 .leaf .leaf) .leaf) (.node 97 a97 .leaf .leaf))))))
end
end Go.Proofs.YtjacnbabnpgpaaaDoor
