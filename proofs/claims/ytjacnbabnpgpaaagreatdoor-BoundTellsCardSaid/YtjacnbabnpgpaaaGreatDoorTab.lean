/- Code. -/
import Derived.Test.YtjacnbabnpgpaaaGreatDoorZA
namespace Go.Proofs.YtjacnbabnpgpaaaGreatDoor
noncomputable section
open Go Go.Abs Go.Abs.T
def z1 : List AV := [(.d (.b false)), (.d (.b false)), (.d (.b false)), (.d (.b false)), (.d (.b false)), (.d (.b false)), (.d (.b false)), (.d (.b false)), (.d (.b false)), (.d (.b false)), (.d (.b false)), (.d (.b false)), (.d (.b false)), (.d (.b false)), (.d (.b false)), (.d (.b false)), (.d (.b false)), (.d (.b false)), (.d (.b false)), (.d (.b false)), (.d (.b false)), (.d (.b false)), (.d (.b false)), (.d (.b false)), (.d (.b false)), (.d (.b false)), (.d (.b false)), (.d (.b false)), (.d (.b false)), (.d (.b false)), (.d (.b false)), (.d (.b false)), (.d (.b false)), (.d (.b false)), (.d (.b false)), (.d (.b false)), (.d (.b false)), (.d (.b false)), (.d (.b false)), (.d (.b false)), (.d (.b false)), (.d (.b false)), (.d (.b false)), (.d (.b false)), (.d (.b false)), (.d (.b false)), (.d (.b false)), (.d (.b false)), (.d (.b false)), (.d (.b false)), (.d (.b false)), (.d (.b false)), (.d (.b false)), (.d (.b false)), (.d (.b false)), (.d (.b false)), (.d (.b false)), (.d (.b false)), (.d (.b false)), (.d (.b false)), (.d (.b false)), (.d (.b false)), (.d (.b false)), (.d (.b false)), (.d (.b false)), (.d (.b false)), (.d (.b false)), (.d (.b false)), (.d (.b false)), (.d (.b false)), (.d (.b false)), (.d (.b false)), (.d (.b false)), (.d (.b false)), (.d (.b false)), (.d (.b false)), (.d (.b false)), (.d (.b false)), (.d (.b false)), (.d (.b false)), (.d (.b false)), (.d (.b false)), (.d (.b false)), (.d (.b false)), (.d (.b false)), (.d (.b false)), (.d (.b false)), (.d (.b false)), (.d (.b false)), (.d (.b false)), (.d (.b false)), (.d (.b false)), (.d (.b false)), (.d (.b false)), (.d (.b false)), (.d (.b false)), (.d (.b false)), (.d (.b false)), (.d (.b false)), (.d (.b false)), (.d (.b false)), (.d (.b false)), (.d (.b false)), (.d (.b false)), (.d (.b false)), (.d (.b false)), (.d (.b false)), (.d (.b false)), (.d (.b false)), (.d (.b false)), (.d (.b false)), (.d (.b false)), (.d (.b false)), (.d (.b false)), (.d (.b false)), (.d (.b false)), (.d (.b false)), (.d (.b false)), (.d (.b false)), (.d (.b false)), (.d (.b false)), (.d (.b false)), (.d (.b false)), (.d (.b false)), (.d (.b false)), (.d (.b false)), (.d (.b false)), (.d (.b false)), (.d (.b false)), (.d (.b false)), (.d (.b false)), (.d (.b false)), (.d (.b false)), (.d (.b false)), (.d (.b false)), (.d (.b false)), (.d (.b false)), (.d (.b false)), (.d (.b false)), (.d (.b false)), (.d (.b false)), (.d (.b false)), (.d (.b false)), (.d (.b false)), (.d (.b false)), (.d (.b false)), (.d (.b false)), (.d (.b false)), (.d (.b false)), (.d (.b false)), (.d (.b false)), (.d (.b false)), (.d (.b false)), (.d (.b false)), (.d (.b false)), (.d (.b false)), (.d (.b false)), (.d (.b false)), (.d (.b false)), (.d (.b false)), (.d (.b false)), (.d (.b false)), (.d (.b false)), (.d (.b false)), (.d (.b false)), (.d (.b false)), (.d (.b false)), (.d (.b false)), (.d (.b false)), (.d (.b false)), (.d (.b false)), (.d (.b false)), (.d (.b false)), (.d (.b false)), (.d (.b false)), (.d (.b false)), (.d (.b false)), (.d (.b false)), (.d (.b false)), (.d (.b false)), (.d (.b false)), (.d (.b false)), (.d (.b false)), (.d (.b false)), (.d (.b false)), (.d (.b false)), (.d (.b false)), (.d (.b false)), (.d (.b false)), (.d (.b false)), (.d (.b false)), (.d (.b false)), (.d (.b false)), (.d (.b false)), (.d (.b false)), (.d (.b false)), (.d (.b false)), (.d (.b false)), (.d (.b false)), (.d (.b false)), (.d (.b false)), (.d (.b false)), (.d (.b false)), (.d (.b false)), (.d (.b false)), (.d (.b false)), (.d (.b false)), (.d (.b false)), (.d (.b false)), (.d (.b false)), (.d (.b false)), (.d (.b false)), (.d (.b false)), (.d (.b false)), (.d (.b false)), (.d (.b false)), (.d (.b false)), (.d (.b false)), (.d (.b false)), (.d (.b false)), (.d (.b false)), (.d (.b false)), (.d (.b false)), (.d (.b false)), (.d (.b false)), (.d (.b false)), (.d (.b false)), (.d (.b false)), (.d (.b false)), (.d (.b false)), (.d (.b false)), (.d (.b false)), (.d (.b false)), (.d (.b false)), (.d (.b false)), (.d (.b false)), (.d (.b false)), (.d (.b false)), (.d (.b false)), (.d (.b false)), (.d (.b false)), (.d (.b false)), (.d (.b false)), (.d (.b false)), (.d (.b false)), (.d (.b false)), (.d (.b false)), (.d (.b false)), (.d (.b false)), (.d (.b false)), (.d (.b false)), (.d (.b false)), (.d (.b false)), (.d (.b false)), (.d (.b false)), (.d (.b false))]
def z2 : List AV := [(.d (.s [])), (.d (.s [])), (.d (.i .u8 0)), (.d (.i .i64 0)), (.d (.i .i64 0)), (.d (.i .i64 0)), .nilsl, (.d (.i .i64 0)), (.d (.i .i64 0)), (.d (.i .u8 0)), (.d (.i .i64 0)), (.d (.i .i64 0)), (.d (.i .u8 0)), (.d (.i .i64 0)), (.d (.s [])), .nilsl]
def z3 : List AV := [(.d (.i .i64 0)), (.d (.i .i64 0)), (.d (.i .i64 0)), (.d (.i .i64 0)), (.d (.i .i64 0)), (.d (.i .i64 0)), (.d (.i .i64 0))]
def z4 : List AV := [(.d (.i .u8 0)), (.d (.i .i64 0)), (.d (.s [])), .nilsl]
def z5 : List AV := [(.d (.s [])), (.d (.i .u8 0)), .nilsl, (.d (.s [])), (.d (.i .i64 0)), (.d (.i .i64 0))]
def z6 : List AV := [(.d (.i .i64 0)), (.d (.i .i64 0)), (.d (.i .i64 0)), (.d (.i .i64 0)), (.d (.i .i64 0))]
def a3 : AFn := ⟨122, [.tmp 8],
 (.seq (.reg [o 4 (.box 26 (t 0)), o 7 (.box 32 (t 3)), o 8 (.mv (.c (.d (.b false))))])
 (.seq (.seq (.reg [o 14 (.load true 8 (t 4)), o 15 (.callf 5 [(t 14)]), o 16 (.un .not (t 15)), m 17 16, og 18 (.load true 9 (t 7)) 17 false, og 19 (.callf 6 [(t 18)]) 17 false, og 20 (.un .not (t 19)) 17 false, o 21 (.pick (t 17) (.c (.d (.b true))) (t 20))])
 (.cond (t 21)
 (.seq (.reg [o 22 (.callf 7 []), m 8 22])
 .ret)
 .skip))
 (.seq (.reg [o 24 (.load true 9 (t 7)), o 25 (.callf 8 [(t 24)]), m 23 25, o 26 (.extr (t 23) 0), o 27 (.extr (t 23) 1), m 9 26, m 10 27])
 (.seq (.reg [o 28 (.load true 9 (t 7)), o 29 (.callf 9 [(t 28)]), m 11 29])
 (.seq (.seq (.reg [m 30 9, m 31 11, o 32 (b .neq (t 30) (t 31)), m 33 32, mg 34 10 33 false, og 35 (b .eql (t 34) (k 0)) 33 false, mg 36 11 33 false, og 37 (b .gtr (t 36) (k 0)) 33 false, og 38 (.bin .neq .bool (t 35) (t 37)) 33 false, o 39 (.pick (t 33) (.c (.d (.b true))) (t 38)), m 40 39, mg 41 10 40 false, og 42 (b .neq (t 41) (k 0)) 40 false, mg 43 42 40 false, mg 44 10 43 true, og 45 (b .neq (t 44) (k 2)) 43 true, og 46 (.pick (t 43) (t 45) (.c (.d (.b false)))) 40 false, o 47 (.pick (t 40) (.c (.d (.b true))) (t 46))])
 (.cond (t 47)
 (.seq (.reg [o 8 (.mv (.c (.d (.b false))))])
 .ret)
 .skip))
 (.seq (.seq (.reg [o 48 (.load true 8 (t 4)), o 49 (.callf 10 [(t 48)]), o 50 (.un .not (t 49))])
 (.cond (t 50)
 (.seq (.reg [o 51 (.callf 7 []), m 8 51])
 .ret)
 .skip))
 (.seq (.reg [o 52 (.load true 8 (t 4)), o 53 (.callf 11 [(t 52)]), m 12 53])
 (.seq (.seq (.dreg 0 [⟨o 54 (.load true 8 (t 4)), 0, false, [], none⟩, ⟨o 55 (.callf 12 [(t 54)]), 1, true, [], none⟩, ⟨m 56 12, 2, false, [], none⟩, ⟨o 57 (b .neq (t 55) (t 56)), 3, false, [1], none⟩, ⟨m 58 57, 4, false, [1], none⟩, ⟨og 59 (.load true 8 (t 4)) 58 false, 5, false, [1], none⟩, ⟨mg 60 1 58 false, 6, false, [1], none⟩, ⟨og 61 (.callf 13 [(t 59), (t 60)]) 58 false, 7, true, [], none⟩, ⟨og 62 (.load true 8 (t 4)) 58 false, 8, false, [1], none⟩, ⟨mg 63 1 58 false, 9, false, [1], none⟩, ⟨og 64 (.callf 14 [(t 62), (t 63)]) 58 false, 10, true, [], none⟩, ⟨og 65 (b .neq (t 61) (t 64)) 58 false, 11, false, [10, 7, 1], none⟩, ⟨o 66 (.pick (t 58) (.c (.d (.b true))) (t 65)), 12, false, [10, 7, 1], none⟩, ⟨m 67 66, 13, false, [10, 7, 1], none⟩, ⟨og 68 (.load true 8 (t 4)) 67 false, 14, false, [10, 7, 1], none⟩, ⟨og 69 (.callf 15 [(t 68)]) 67 false, 15, true, [], none⟩, ⟨mg 70 12 67 false, 16, false, [10, 7, 1], none⟩, ⟨og 71 (b .mul (k 39804) (t 70)) 67 false, 17, false, [10, 7, 1], none⟩, ⟨og 72 (b .neq (t 69) (t 71)) 67 false, 18, false, [15, 10, 7, 1], none⟩, ⟨o 73 (.pick (t 67) (.c (.d (.b true))) (t 72)), 19, false, [15, 10, 7, 1], none⟩, ⟨m 74 73, 20, false, [15, 10, 7, 1], none⟩, ⟨og 75 (.fadd 0 (t 4)) 74 false, 21, false, [15, 10, 7, 1], none⟩, ⟨og 76 (.load true 5 (t 75)) 74 false, 22, false, [15, 10, 7, 1], none⟩, ⟨og 77 (.callf 16 [(t 76)]) 74 false, 23, true, [], none⟩, ⟨og 78 (.fadd 0 (t 4)) 74 false, 24, false, [15, 10, 7, 1], none⟩, ⟨og 79 (.fadd 3 (t 78)) 74 false, 25, false, [15, 10, 7, 1], none⟩, ⟨lg 80 79 74 false, 26, false, [15, 10, 7, 1], none⟩, ⟨og 81 (b .add (t 80) (k 1)) 74 false, 27, false, [15, 10, 7, 1], none⟩, ⟨og 82 (b .mul (k 2) (t 81)) 74 false, 28, false, [15, 10, 7, 1], none⟩, ⟨og 83 (.fadd 0 (t 4)) 74 false, 29, false, [15, 10, 7, 1], none⟩, ⟨og 84 (.fadd 0 (t 83)) 74 false, 30, false, [15, 10, 7, 1], none⟩, ⟨lg 85 84 74 false, 31, false, [15, 10, 7, 1], none⟩, ⟨og 86 (b .mul (t 82) (t 85)) 74 false, 32, false, [15, 10, 7, 1], none⟩, ⟨og 87 (.fadd 0 (t 4)) 74 false, 33, false, [15, 10, 7, 1], none⟩, ⟨og 88 (.fadd 4 (t 87)) 74 false, 34, false, [15, 10, 7, 1], none⟩, ⟨lg 89 88 74 false, 35, false, [15, 10, 7, 1], none⟩, ⟨og 90 (b .mul (t 86) (t 89)) 74 false, 36, false, [15, 10, 7, 1], none⟩, ⟨og 91 (b .neq (t 77) (t 90)) 74 false, 37, false, [23, 15, 10, 7, 1], none⟩, ⟨o 92 (.pick (t 74) (.c (.d (.b true))) (t 91)), 38, false, [23, 15, 10, 7, 1], none⟩])
 (.cond (t 92)
 (.seq (.reg [o 8 (.mv (.c (.d (.b false))))])
 .ret)
 .skip))
 (.seq (.seq (.reg [m 93 2, o 94 (b .lss (t 93) (k 0)), m 95 94, mg 96 2 95 false, og 97 (.fadd 6 (t 4)) 95 false, lg 98 97 95 false, og 99 (.len 1 (t 98)) 95 false, og 100 (b .geq (t 96) (t 99)) 95 false, o 101 (.pick (t 95) (.c (.d (.b true))) (t 100))])
 (.cond (t 101)
 (.seq (.reg [o 102 (.callf 7 []), m 8 102])
 .ret)
 .skip))
 (.seq (.reg [o 103 (.fadd 6 (t 4)), l 104 103, m 105 2, o 106 (.iaS 16 (t 104) (t 105)), o 107 (.load true 16 (t 106)), o 13 (.alloc 45 z2), u (.store 16 (t 13) (t 107))])
 (.seq (.dreg 0 [⟨o 108 (.load true 16 (t 13)), 0, false, [], none⟩, ⟨o 109 (.fadd 0 (t 4)), 1, false, [], none⟩, ⟨o 110 (.fadd 3 (t 109)), 2, false, [], none⟩, ⟨l 111 110, 3, false, [], none⟩, ⟨o 112 (.callf 17 [(t 108), (t 111)]), 4, true, [], none⟩, ⟨o 113 (.load true 16 (t 13)), 5, false, [], none⟩, ⟨o 114 (.fadd 0 (t 4)), 6, false, [], none⟩, ⟨o 115 (.fadd 3 (t 114)), 7, false, [], none⟩, ⟨l 116 115, 8, false, [], none⟩, ⟨o 117 (.callf 18 [(t 113), (t 116)]), 9, true, [], none⟩, ⟨o 118 (b .eql (t 112) (t 117)), 10, false, [9, 4], none⟩, ⟨m 119 118, 11, false, [9, 4], none⟩, ⟨og 120 (.callf 7 []) 119 true, 12, true, [], none⟩, ⟨o 121 (.pick (t 119) (t 120) (.c (.d (.b false)))), 13, false, [12, 9, 4], none⟩, ⟨m 8 121, 14, false, [12, 9, 4], none⟩])
 .ret))))))))))), false⟩
def a5 : AFn := ⟨39, [.tmp 2],
 (.seq (.reg [o 1 (.box 26 (t 0)), o 2 (.mv (.c (.d (.b false))))])
 (.seq (.seq (.reg [o 5 (.fadd 6 (t 1)), l 6 5, o 7 (.len 1 (t 6)), o 8 (b .gtr (t 7) (k 60))])
 (.cond (t 8)
 (.seq (.reg [o 2 (.mv (.c (.d (.b false))))])
 .ret)
 .skip))
 (.seq (.seq (.reg [o 9 (.fadd 6 (t 1)), l 10 9, o 11 (.len 1 (t 10)), o 12 (.mv (k 0))])
 (.blk 0 (.loop (.seq (.reg [o 13 (b .lss (t 12) (t 11))])
 (.seq (.cond (t 13)
 .skip
 (.exit 0))
 (.seq (.blk 1 (.seq (.reg [o 14 (.iaS 16 (t 10) (t 12)), o 15 (.load true 16 (t 14)), o 4 (.alloc 45 z2), u (.store 16 (t 4) (t 15))])
 (.seq (.reg [o 16 (.fadd 0 (t 4)), l 17 16, o 18 (.len 0 (t 17)), o 19 (b .gtr (t 18) (k 500)), m 20 19, og 21 (.fadd 1 (t 4)) 20 false, lg 22 21 20 false, og 23 (.len 0 (t 22)) 20 false, og 24 (b .gtr (t 23) (k 100)) 20 false, o 25 (.pick (t 20) (.c (.d (.b true))) (t 24)), m 26 25, og 27 (.fadd 6 (t 4)) 26 false, lg 28 27 26 false, og 29 (.len 1 (t 28)) 26 false, og 30 (b .gtr (t 29) (k 40)) 26 false, o 31 (.pick (t 26) (.c (.d (.b true))) (t 30)), m 32 31, og 33 (.fadd 12 (t 4)) 32 false, og 34 (.load true 4 (t 33)) 32 false, og 35 (.callf 22 [(t 34)]) 32 false, og 36 (.un .not (t 35)) 32 false, o 37 (.pick (t 32) (.c (.d (.b true))) (t 36))])
 (.cond (t 37)
 (.seq (.reg [o 2 (.mv (.c (.d (.b false))))])
 .ret)
 .skip))))
 (.reg [o 38 (b .add (t 12) (k 1)), m 12 38])))))))
 (.seq (.reg [o 2 (.mv (.c (.d (.b true))))])
 .ret)))), false⟩
def a6 : AFn := ⟨17, [.tmp 2],
 (.seq (.reg [o 1 (.box 32 (t 0)), o 2 (.mv (.c (.d (.b false))))])
 (.seq (.reg [o 3 (.fadd 3 (t 1)), o 4 (.load true 4 (t 3)), o 5 (.callf 22 [(t 4)]), m 6 5, og 7 (.fadd 7 (t 1)) 6 true, lg 8 7 6 true, og 9 (.callf 23 [(t 8)]) 6 true, o 10 (.pick (t 6) (t 9) (.c (.d (.b false)))), m 11 10, og 12 (.fadd 1 (t 1)) 11 true, lg 13 12 11 true, og 14 (.len 0 (t 13)) 11 true, og 15 (b .leq (t 14) (k 500)) 11 true, o 16 (.pick (t 11) (t 15) (.c (.d (.b false)))), m 2 16])
 .ret)), false⟩
def a7 : AFn := ⟨53, [.tmp 0],
 (.seq (.reg [o 0 (.mv (.c (.d (.b false))))])
 (.seq (.reg [o 7 (.build z2 [(8, 1, (k 2)), (10, 1, (k 1))]), o 1 (.alloc 45 z2), u (.store 16 (t 1) (t 7))])
 (.seq (.dreg 2 [⟨o 8 (.load true 16 (t 1)), 0, false, [], none⟩, ⟨o 2 (.alloc 45 z2), 2, false, [], (some 0)⟩, ⟨o 3 (.alloc 45 z2), 3, false, [], (some 1)⟩, ⟨u (.store 16 (t 2) (t 8)), 4, true, [], none⟩, ⟨o 9 (.load true 16 (t 1)), 1, false, [], none⟩, ⟨u (.store 16 (t 3) (t 9)), 5, true, [], none⟩])
 (.seq (.reg [o 10 (.fadd 9 (t 2)), u (.store 1 (t 10) (.c (.d (.i .u8 2)))), o 11 (.fadd 9 (t 3)), u (.store 1 (t 11) (.c (.d (.i .u8 3))))])
 (.seq (.reg [o 12 (.build z2 [(2, 1, (.c (.d (.i .u8 1)))), (7, 1, (k 3)), (8, 1, (k 1))]), o 4 (.alloc 45 z2), u (.store 16 (t 4) (t 12))])
 (.seq (.reg [o 14 (.build [(.d (.i .u8 0)), (.d (.s [])), (.d (.i .i64 0)), (.d (.i .u8 0)), (.d (.i .i64 0)), (.d (.s [])), .nilsl, .nilsl, (.d (.i .i64 0))] [(0, 1, (.c (.d (.i .u8 5)))), (1, 1, (.c (.d (.s [120]))))]), o 15 (.callf 8 [(t 14)]), m 13 15, o 16 (.extr (t 13) 0), o 17 (.extr (t 13) 1), m 5 16, m 6 17])
 (.seq (.reg [o 18 (.load true 16 (t 1)), o 19 (.callf 17 [(t 18), (k 1)]), o 20 (b .eql (t 19) (k 10)), m 21 20, og 22 (.load true 16 (t 2)) 21 true, og 23 (.callf 17 [(t 22), (k 1)]) 21 true, og 24 (b .eql (t 23) (k 9)) 21 true, o 25 (.pick (t 21) (t 24) (.c (.d (.b false)))), m 26 25, og 27 (.load true 16 (t 3)) 26 true, og 28 (.callf 17 [(t 27), (k 1)]) 26 true, og 29 (b .eql (t 28) (k 0)) 26 true, o 30 (.pick (t 26) (t 29) (.c (.d (.b false)))), m 31 30, og 32 (.load true 16 (t 4)) 31 true, og 33 (.callf 17 [(t 32), (k 0)]) 31 true, og 34 (b .eql (t 33) (k 12)) 31 true, o 35 (.pick (t 31) (t 34) (.c (.d (.b false)))), m 36 35, og 37 (.build z6 [(0, 1, (k 10)), (4, 1, (k 2)), (3, 1, (k 1))]) 36 true, og 38 (.callf 16 [(t 37)]) 36 true, og 39 (b .eql (t 38) (k 80)) 36 true, o 40 (.pick (t 36) (t 39) (.c (.d (.b false)))), m 41 40, mg 42 5 41 true, og 43 (b .eql (t 42) (k 32)) 41 true, o 44 (.pick (t 41) (t 43) (.c (.d (.b false)))), m 45 44, mg 46 6 45 true, og 47 (b .eql (t 46) (k 0)) 45 true, o 48 (.pick (t 45) (t 47) (.c (.d (.b false)))), m 49 48, og 50 (.callf 21 []) 49 true, og 51 (b .eql (t 50) (k 39804)) 49 true, o 52 (.pick (t 49) (t 51) (.c (.d (.b false)))), m 0 52])
 .ret))))))), false⟩
def a8 : AFn := ⟨19, [.tmp 2, .tmp 3],
 (.seq (.reg [o 1 (.box 32 (t 0)), o 2 (.mv (k 0)), o 3 (.mv (k 0))])
 (.seq (.reg [o 7 (.load true 9 (t 1)), o 8 (.build [(.d (.i .u8 0)), (.d (.i .u64 0)), (.d (.i .u8 0)), (.d (.s [])), (.d (.i .i64 0)), (.d (.i .u8 0)), (.d (.i .i64 0)), (.d (.s [])), .nilsl, .nilsl, (.d (.i .i64 0)), (.d (.i .i64 0)), (.d (.i .i64 0)), (.d (.i .i64 0)), (.d (.i .i64 0)), (.d (.i .i64 0)), (.d (.i .i64 0)), .nilsl, (.d (.i .i64 0))] [(0, 1, (.c (.d (.i .u8 1)))), (2, 9, (t 7))]), o 9 (.callf 19 [(t 8)]), m 6 9, o 10 (.extr (t 6) 0), o 11 (.extr (t 6) 1), m 4 10, m 5 11])
 (.seq (.seq (.reg [m 12 5, o 13 (b .neq (t 12) (k 0))])
 (.cond (t 13)
 (.seq (.reg [m 14 5, o 2 (.mv (k 0)), m 3 14])
 .ret)
 .skip))
 (.seq (.reg [m 15 4, o 16 (.callf 24 [(t 15)]), o 17 (.extr (t 16) 0), o 18 (.extr (t 16) 1), m 2 17, m 3 18])
 .ret)))), false⟩
def a9 : AFn := ⟨21, [.tmp 2],
 (.seq (.reg [o 1 (.box 32 (t 0)), o 2 (.mv (k 0))])
 (.seq (.seq (.reg [o 6 (.load true 9 (t 1)), o 7 (.callf 25 [(t 6)]), o 8 (.un .not (t 7))])
 (.cond (t 8)
 (.seq (.reg [o 2 (.mv (k 0))])
 .ret)
 .skip))
 (.seq (.dreg 1 [⟨o 10 (.load true 9 (t 1)), 1, false, [], none⟩, ⟨o 11 (.callf 26 [(t 10)]), 2, true, [], none⟩, ⟨o 9 (.mksl 5 1 1 [(.d (.i .u8 0))] (k 9) (k 9)), 0, false, [], (some 0)⟩, ⟨o 12 (.app 5 1 1 false (t 9) (t 11)), 3, true, [], none⟩, ⟨m 3 12, 4, false, [3, 2], none⟩])
 (.seq (.reg [m 14 3, o 15 (.callf 28 [(t 14)]), o 16 (.callf 27 [(t 15)]), m 13 16, o 17 (.extr (t 13) 0), o 18 (.extr (t 13) 1), m 4 17, m 5 18])
 (.seq (.reg [m 19 4, o 20 (.len 1 (t 19)), m 2 20])
 .ret))))), false⟩
def a10 : AFn := ⟨64, [.tmp 2],
 (.seq (.reg [o 1 (.box 26 (t 0)), o 2 (.mv (.c (.d (.b false))))])
 (.seq (.reg [o 6 (.fadd 0 (t 1)), o 7 (.load true 5 (t 6)), o 3 (.alloc 23 z6), u (.store 5 (t 3) (t 7))])
 (.seq (.reg [o 8 (.fadd 0 (t 3)), l 9 8, o 10 (.callf 29 [(t 9), (k 0), (k 400)]), m 11 10, og 12 (.fadd 1 (t 3)) 11 true, lg 13 12 11 true, og 14 (.callf 29 [(t 13), (k 0), (k 12)]) 11 true, o 15 (.pick (t 11) (t 14) (.c (.d (.b false)))), m 16 15, og 17 (.fadd 2 (t 3)) 16 true, lg 18 17 16 true, og 19 (.callf 29 [(t 18), (k 0), (k 40)]) 16 true, o 20 (.pick (t 16) (t 19) (.c (.d (.b false)))), m 21 20, og 22 (.fadd 3 (t 3)) 21 true, lg 23 22 21 true, og 24 (.callf 29 [(t 23), (k 0), (k 9)]) 21 true, o 25 (.pick (t 21) (t 24) (.c (.d (.b false)))), m 26 25, og 27 (.fadd 4 (t 3)) 26 true, lg 28 27 26 true, og 29 (.callf 29 [(t 28), (k 0), (k 12)]) 26 true, o 30 (.pick (t 26) (t 29) (.c (.d (.b false)))), m 31 30, og 32 (.fadd 5 (t 1)) 31 true, lg 33 32 31 true, og 34 (.callf 29 [(t 33), (k 0), (k 12)]) 31 true, o 35 (.pick (t 31) (t 34) (.c (.d (.b false)))), m 36 35, og 37 (.fadd 7 (t 1)) 36 true, lg 38 37 36 true, og 39 (b .geq (t 38) (k 0)) 36 true, o 40 (.pick (t 36) (t 39) (.c (.d (.b false)))), m 41 40, og 42 (.fadd 6 (t 1)) 41 true, lg 43 42 41 true, og 44 (.len 1 (t 43)) 41 true, og 45 (b .leq (t 44) (k 4800)) 41 true, o 46 (.pick (t 41) (t 45) (.c (.d (.b false)))), m 4 46])
 (.seq (.seq (.reg [o 5 (.mv (k 0))])
 (.blk 0 (.loop (.seq (.seq (.reg [m 47 5, o 48 (.fadd 6 (t 1)), l 49 48, o 50 (.len 1 (t 49)), o 51 (b .lss (t 47) (t 50)), m 52 51, mg 53 4 52 true, o 54 (.pick (t 52) (t 53) (.c (.d (.b false))))])
 (.cond (t 54)
 .skip
 (.exit 0)))
 (.seq (.blk 1 (.reg [o 57 (.fadd 6 (t 1)), l 58 57, m 59 5, o 60 (.iaS 16 (t 58) (t 59)), o 61 (.load true 16 (t 60)), o 62 (.callf 30 [(t 61)]), m 4 62]))
 (.reg [m 55 5, o 56 (b .add (t 55) (k 1)), m 5 56]))))))
 (.seq (.reg [m 63 4, m 2 63])
 .ret))))), false⟩
def a11 : AFn := ⟨24, [.tmp 2],
 (.seq (.reg [o 1 (.box 26 (t 0)), o 2 (.mv (k 0))])
 (.seq (.reg [o 3 (.mv (k 0))])
 (.seq (.seq (.reg [o 4 (.mv (k 0))])
 (.blk 0 (.loop (.seq (.seq (.reg [m 5 4, o 6 (.fadd 6 (t 1)), l 7 6, o 8 (.len 1 (t 7)), o 9 (b .lss (t 5) (t 8))])
 (.cond (t 9)
 .skip
 (.exit 0)))
 (.seq (.blk 1 (.dreg 0 [⟨o 13 (.fadd 6 (t 1)), 1, false, [], none⟩, ⟨l 14 13, 2, false, [], none⟩, ⟨m 15 4, 3, false, [], none⟩, ⟨o 16 (.iaS 16 (t 14) (t 15)), 4, false, [], none⟩, ⟨o 17 (.load true 16 (t 16)), 5, false, [], none⟩, ⟨o 18 (.fadd 0 (t 1)), 6, false, [], none⟩, ⟨o 19 (.fadd 3 (t 18)), 7, false, [], none⟩, ⟨l 20 19, 8, false, [], none⟩, ⟨o 21 (.callf 18 [(t 17), (t 20)]), 9, true, [], none⟩, ⟨m 12 3, 0, false, [], none⟩, ⟨o 22 (b .add (t 12) (t 21)), 10, false, [9], none⟩, ⟨m 3 22, 11, false, [9], none⟩]))
 (.reg [m 10 4, o 11 (b .add (t 10) (k 1)), m 4 11]))))))
 (.seq (.reg [m 23 3, m 2 23])
 .ret)))), false⟩
def a12 : AFn := ⟨5, [.tmp 2],
 (.seq (.reg [o 1 (.box 26 (t 0)), o 2 (.mv (k 0))])
 (.seq (.reg [o 3 (.load true 8 (t 1)), o 4 (.callf 31 [(t 3), (.c (.d (.fn (.func 32) [] [])))]), m 2 4])
 .ret)), false⟩
def a13 : AFn := ⟨8, [.tmp 4],
 (.seq (.reg [o 2 (.box 26 (t 0)), o 3 (.box 3 (t 1)), o 4 (.mv (k 0))])
 (.seq (.reg [o 5 (.load true 8 (t 2)), o 6 (.mkfn (.func 33) [] [(t 3)]), o 7 (.callf 31 [(t 5), (t 6)]), m 4 7])
 .ret)), false⟩
def a14 : AFn := ⟨34, [.tmp 4],
 (.seq (.reg [o 2 (.box 26 (t 0)), o 4 (.mv (k 0))])
 (.seq (.reg [o 5 (.mv (k 0))])
 (.seq (.seq (.reg [o 6 (.mv (k 0))])
 (.blk 0 (.loop (.seq (.seq (.reg [m 7 6, o 8 (.fadd 6 (t 2)), l 9 8, o 10 (.len 1 (t 9)), o 11 (b .lss (t 7) (t 10))])
 (.cond (t 11)
 .skip
 (.exit 0)))
 (.seq (.blk 1 (.seq (.reg [o 14 (.fadd 6 (t 2)), l 15 14, m 16 6, o 17 (.iaS 16 (t 15) (t 16)), o 18 (.fadd 3 (t 17)), l 19 18, m 20 1, o 21 (b .eql (t 19) (t 20))])
 (.cond (t 21)
 (.dreg 0 [⟨o 23 (.fadd 6 (t 2)), 1, false, [], none⟩, ⟨l 24 23, 2, false, [], none⟩, ⟨m 25 6, 3, false, [], none⟩, ⟨o 26 (.iaS 16 (t 24) (t 25)), 4, false, [], none⟩, ⟨o 27 (.load true 16 (t 26)), 5, false, [], none⟩, ⟨o 28 (.fadd 0 (t 2)), 6, false, [], none⟩, ⟨o 29 (.fadd 3 (t 28)), 7, false, [], none⟩, ⟨l 30 29, 8, false, [], none⟩, ⟨o 31 (.callf 18 [(t 27), (t 30)]), 9, true, [], none⟩, ⟨m 22 5, 0, false, [], none⟩, ⟨o 32 (b .add (t 22) (t 31)), 10, false, [9], none⟩, ⟨m 5 32, 11, false, [9], none⟩])
 .skip)))
 (.reg [m 12 6, o 13 (b .add (t 12) (k 1)), m 6 13]))))))
 (.seq (.reg [m 33 5, m 4 33])
 .ret)))), false⟩
def a15 : AFn := ⟨6, [.tmp 2],
 (.seq (.reg [o 1 (.box 26 (t 0)), o 2 (.mv (k 0))])
 (.seq (.reg [o 3 (.load true 8 (t 1)), o 4 (.callf 12 [(t 3)]), o 5 (b .mul (t 4) (k 39804)), m 2 5])
 .ret)), false⟩
def a16 : AFn := ⟨13, [.tmp 2],
 (.seq (.reg [o 1 (.box 23 (t 0)), o 2 (.mv (k 0))])
 (.seq (.reg [o 3 (.fadd 3 (t 1)), l 4 3, o 5 (b .add (t 4) (k 1)), o 6 (b .mul (k 2) (t 5)), o 7 (.fadd 0 (t 1)), l 8 7, o 9 (b .mul (t 6) (t 8)), o 10 (.fadd 4 (t 1)), l 11 10, o 12 (b .mul (t 9) (t 11)), m 2 12])
 .ret)), false⟩
def a17 : AFn := ⟨49, [.tmp 4],
 (.seq (.reg [o 2 (.box 45 (t 0)), o 4 (.mv (k 0))])
 (.seq (.reg [m 9 1, o 10 (b .add (t 9) (k 1)), o 11 (b .mul (k 2) (t 10)), m 5 11])
 (.seq (.seq (.reg [o 12 (.fadd 2 (t 2)), l 13 12, o 14 (b .eql (t 13) (.c (.d (.i .u8 1))))])
 (.cond (t 14)
 (.seq (.reg [m 15 5, o 16 (.fadd 7 (t 2)), l 17 16, o 18 (b .mul (t 15) (t 17)), o 19 (.fadd 8 (t 2)), l 20 19, o 21 (b .add (k 1) (t 20)), o 22 (b .mul (t 18) (t 21)), o 23 (.build z3 [(0, 1, (t 22))]), o 6 (.alloc 69 z3), u (.store 7 (t 6) (t 23))])
 (.seq (.reg [o 24 (.fadd 9 (t 2)), l 25 24, o 26 (.mn [(t 25), (.c (.d (.i .u8 6)))]), o 27 (.iaA 7 1 (t 6) (t 26)), l 28 27, m 4 28])
 .ret))
 .skip))
 (.seq (.reg [m 29 5, o 30 (.fadd 10 (t 2)), l 31 30, o 32 (b .mul (k 2) (t 31)), o 33 (b .sub (t 29) (t 32)), m 34 5, o 35 (.fadd 8 (t 2)), l 36 35, o 37 (b .mul (t 34) (t 36)), o 38 (b .add (t 33) (t 37)), m 7 38])
 (.seq (.reg [m 39 7, m 40 7, m 41 7, o 42 (b .sub (t 41) (k 1)), o 43 (.build z3 [(0, 1, (t 39)), (1, 1, (t 40)), (2, 1, (t 42))]), o 8 (.alloc 69 z3), u (.store 7 (t 8) (t 43))])
 (.seq (.reg [o 44 (.fadd 9 (t 2)), l 45 44, o 46 (.mn [(t 45), (.c (.d (.i .u8 6)))]), o 47 (.iaA 7 1 (t 8) (t 46)), l 48 47, m 4 48])
 .ret)))))), false⟩
def a18 : AFn := ⟨51, [.tmp 4],
 (.seq (.reg [o 2 (.box 45 (t 0)), o 4 (.mv (k 0))])
 (.seq (.reg [m 7 1, o 8 (b .add (t 7) (k 1)), m 5 8])
 (.seq (.seq (.reg [o 9 (.fadd 2 (t 2)), l 10 9, o 11 (b .eql (t 10) (.c (.d (.i .u8 1)))), m 12 11, og 13 (.fadd 9 (t 2)) 12 true, lg 14 13 12 true, og 15 (b .eql (t 14) (.c (.d (.i .u8 0)))) 12 true, o 16 (.pick (t 12) (t 15) (.c (.d (.b false))))])
 (.cond (t 16)
 (.seq (.reg [m 17 5, o 18 (b .mul (k 2) (t 17)), o 19 (.fadd 7 (t 2)), l 20 19, o 21 (b .mul (t 18) (t 20)), o 22 (.fadd 8 (t 2)), l 23 22, o 24 (b .add (k 1) (t 23)), o 25 (b .mul (t 21) (t 24)), m 4 25])
 .ret)
 .skip))
 (.seq (.seq (.reg [o 26 (.fadd 2 (t 2)), l 27 26, o 28 (b .eql (t 27) (.c (.d (.i .u8 1)))), m 29 28, og 30 (.fadd 9 (t 2)) 29 false, lg 31 30 29 false, og 32 (b .gtr (t 31) (.c (.d (.i .u8 2)))) 29 false, o 33 (.pick (t 29) (.c (.d (.b true))) (t 32))])
 (.cond (t 33)
 (.seq (.reg [o 4 (.mv (k 0))])
 .ret)
 .skip))
 (.seq (.reg [m 34 5, o 35 (.fadd 10 (t 2)), l 36 35, o 37 (b .sub (t 34) (t 36)), o 38 (b .mul (k 2) (t 37)), m 39 5, o 40 (b .mul (k 2) (t 39)), o 41 (.fadd 8 (t 2)), l 42 41, o 43 (b .mul (t 40) (t 42)), o 44 (b .add (t 38) (t 43)), m 6 44])
 (.seq (.seq (.reg [o 45 (.fadd 9 (t 2)), l 46 45, o 47 (b .eql (t 46) (.c (.d (.i .u8 2))))])
 (.cond (t 47)
 (.reg [m 48 6, o 49 (b .sub (t 48) (k 1)), m 6 49])
 .skip))
 (.seq (.reg [m 50 6, m 4 50])
 .ret))))))), false⟩
def a19 : AFn := ⟨23, [.tmp 2, .tmp 3],
 (.seq (.reg [o 1 (.box 53 (t 0)), o 2 (.mv (.c .nilsl)), o 3 (.mv (k 0))])
 (.seq (.reg [o 8 (.load true 19 (t 1)), o 9 (.callf 34 [(t 8)]), m 7 9, o 10 (.extr (t 7) 0), o 11 (.extr (t 7) 1), m 4 10, m 5 11])
 (.seq (.seq (.reg [m 12 5, o 13 (b .neq (t 12) (k 0))])
 (.cond (t 13)
 (.seq (.reg [o 2 (.mv (.c .nilsl)), o 3 (.mv (k 2))])
 .ret)
 .skip))
 (.seq (.reg [o 14 (.load true 19 (t 1)), o 15 (.callf 36 [(t 14)]), m 16 4, o 17 (.app 5 1 1 false (t 15) (t 16)), o 18 (.callf 35 [(t 17)]), m 6 18])
 (.seq (.seq (.reg [m 19 6, o 20 (.len 1 (t 19)), o 21 (b .gtr (t 20) (k 1024))])
 (.cond (t 21)
 (.seq (.reg [o 2 (.mv (.c .nilsl)), o 3 (.mv (k 31))])
 .ret)
 .skip))
 (.seq (.reg [m 22 6, m 2 22, o 3 (.mv (k 0))])
 .ret)))))), false⟩
def a21 : AFn := ⟨1, [.tmp 0],
 (.seq (.reg [o 0 (.mv (k 0))])
 (.seq (.reg [o 0 (.mv (k 39804))])
 .ret)), false⟩
def a22 : AFn := ⟨6, [.tmp 2],
 (.seq (.reg [o 1 (.box 29 (t 0)), o 2 (.mv (.c (.d (.b false))))])
 (.seq (.reg [o 3 (.load true 4 (t 1)), o 4 (.callf 40 [(t 3), (k 20)]), o 5 (b .leq (t 4) (k 600)), m 2 5])
 .ret)), false⟩
def a23 : AFn := ⟨44, [.tmp 2],
 (.seq (.reg [o 2 (.mv (.c (.d (.b false))))])
 (.seq (.seq (.reg [m 7 0, o 8 (.len 1 (t 7)), o 9 (.mv (k 0))])
 (.blk 0 (.loop (.seq (.reg [o 10 (b .lss (t 9) (t 8))])
 (.seq (.cond (t 10)
 .skip
 (.exit 0))
 (.seq (.blk 1 (.seq (.reg [o 11 (.iaS 6 (t 7) (t 9)), o 12 (.load true 6 (t 11)), o 4 (.alloc 60 z5), u (.store 6 (t 4) (t 12))])
 (.seq (.seq (.reg [o 13 (.fadd 2 (t 4)), l 14 13, o 15 (.len 1 (t 14)), o 16 (b .gtr (t 15) (k 40)), m 17 16, og 18 (.fadd 0 (t 4)) 17 false, lg 19 18 17 false, og 20 (.len 0 (t 19)) 17 false, og 21 (b .gtr (t 20) (k 100)) 17 false, o 22 (.pick (t 17) (.c (.d (.b true))) (t 21)), m 23 22, og 24 (.fadd 3 (t 4)) 23 false, lg 25 24 23 false, og 26 (.len 0 (t 25)) 23 false, og 27 (b .gtr (t 26) (k 100)) 23 false, o 28 (.pick (t 23) (.c (.d (.b true))) (t 27))])
 (.cond (t 28)
 (.seq (.reg [o 2 (.mv (.c (.d (.b false))))])
 .ret)
 .skip))
 (.seq (.reg [o 29 (.fadd 2 (t 4)), l 30 29, o 31 (.len 1 (t 30)), o 32 (.mv (k 0))])
 (.blk 2 (.loop (.seq (.reg [o 33 (b .lss (t 32) (t 31))])
 (.seq (.cond (t 33)
 .skip
 (.exit 2))
 (.seq (.blk 3 (.seq (.reg [o 34 (.iaS 1 (t 30) (t 32)), l 35 34, m 6 35])
 (.seq (.reg [m 36 6, o 37 (.len 0 (t 36)), o 38 (b .gtr (t 37) (k 100))])
 (.cond (t 38)
 (.seq (.reg [o 2 (.mv (.c (.d (.b false))))])
 .ret)
 .skip))))
 (.reg [o 39 (b .add (t 32) (k 1)), m 32 39]))))))))))
 (.reg [o 40 (b .add (t 9) (k 1)), m 9 40])))))))
 (.seq (.reg [m 41 0, o 42 (.len 1 (t 41)), o 43 (b .leq (t 42) (k 60)), m 2 43])
 .ret))), false⟩
def a24 : AFn := ⟨27, [.tmp 2, .tmp 3],
 (.seq (.reg [o 2 (.mv (k 0)), o 3 (.mv (k 0))])
 (.seq (.seq (.reg [m 8 0, o 9 (.callf 37 [(t 8)]), m 4 9])
 (.seq (.reg [m 10 4, o 11 (b .neq (t 10) (k 0))])
 (.cond (t 11)
 (.seq (.reg [m 12 4, o 2 (.mv (k 0)), m 3 12])
 .ret)
 .skip)))
 (.seq (.reg [o 13 (.callf 41 [(k 2)]), m 5 13])
 (.seq (.seq (.reg [m 14 0, o 15 (.len 1 (t 14)), o 16 (.mv (k 0))])
 (.blk 0 (.loop (.seq (.reg [o 17 (b .lss (t 16) (t 15))])
 (.seq (.cond (t 17)
 .skip
 (.exit 0))
 (.seq (.blk 1 (.seq (.reg [o 18 (.iaS 1 (t 14) (t 16)), l 19 18, m 7 19])
 (.reg [m 20 5, m 21 7, o 22 (.len 1 (t 21)), o 23 (.callf 41 [(t 22)]), o 24 (b .add (t 20) (t 23)), m 5 24])))
 (.reg [o 25 (b .add (t 16) (k 1)), m 16 25])))))))
 (.seq (.reg [m 26 5, m 2 26, o 3 (.mv (k 0))])
 .ret))))), false⟩
def a25 : AFn := ⟨98, [.tmp 2],
 (.seq (.reg [o 1 (.box 32 (t 0)), o 2 (.mv (.c (.d (.b false))))])
 (.seq (.seq (.reg [o 3 (.fadd 0 (t 1)), l 4 3, o 5 (b .lss (t 4) (.c (.d (.i .u8 1)))), m 6 5, og 7 (.fadd 0 (t 1)) 6 false, lg 8 7 6 false, og 9 (b .gtr (t 8) (.c (.d (.i .u8 5)))) 6 false, o 10 (.pick (t 6) (.c (.d (.b true))) (t 9))])
 (.cond (t 10)
 (.seq (.reg [o 2 (.mv (.c (.d (.b false))))])
 .ret)
 .skip))
 (.seq (.seq (.reg [o 11 (.fadd 0 (t 1)), l 12 11, o 13 (b .eql (t 12) (.c (.d (.i .u8 1))))])
 (.cond (t 13)
 (.seq (.reg [o 14 (.fadd 7 (t 1)), l 15 14, o 16 (.callf 42 [(t 15)]), m 17 16, og 18 (.fadd 8 (t 1)) 17 true, lg 19 18 17 true, og 20 (b .geq (t 19) (k 0)) 17 true, o 21 (.pick (t 17) (t 20) (.c (.d (.b false)))), m 22 21, og 23 (.fadd 8 (t 1)) 22 true, lg 24 23 22 true, og 25 (b .leq (t 24) (k 400)) 22 true, o 26 (.pick (t 22) (t 25) (.c (.d (.b false)))), m 27 26, og 28 (.fadd 1 (t 1)) 27 true, lg 29 28 27 true, og 30 (b .eql (t 29) (.c (.d (.s [])))) 27 true, o 31 (.pick (t 27) (t 30) (.c (.d (.b false)))), m 32 31, og 33 (.fadd 2 (t 1)) 32 true, lg 34 33 32 true, og 35 (b .eql (t 34) (k 0)) 32 true, o 36 (.pick (t 32) (t 35) (.c (.d (.b false)))), m 37 36, og 38 (.fadd 3 (t 1)) 37 true, og 39 (.load true 4 (t 38)) 37 true, og 40 (.callf 43 [(t 39)]) 37 true, o 41 (.pick (t 37) (t 40) (.c (.d (.b false)))), m 2 41])
 .ret)
 .skip))
 (.seq (.seq (.reg [o 42 (.fadd 1 (t 1)), l 43 42, o 44 (.callf 44 [(t 43)]), o 45 (.un .not (t 44)), m 46 45, og 47 (.fadd 8 (t 1)) 46 false, lg 48 47 46 false, og 49 (b .neq (t 48) (k 0)) 46 false, o 50 (.pick (t 46) (.c (.d (.b true))) (t 49))])
 (.cond (t 50)
 (.seq (.reg [o 2 (.mv (.c (.d (.b false))))])
 .ret)
 .skip))
 (.seq (.seq (.reg [o 51 (.fadd 0 (t 1)), l 52 51, o 53 (b .eql (t 52) (.c (.d (.i .u8 3))))])
 (.cond (t 53)
 (.seq (.reg [o 54 (.fadd 2 (t 1)), l 55 54, o 56 (b .geq (t 55) (k 1)), m 57 56, og 58 (.fadd 3 (t 1)) 57 true, og 59 (.load true 4 (t 58)) 57 true, og 60 (.callf 45 [(t 59)]) 57 true, o 61 (.pick (t 57) (t 60) (.c (.d (.b false)))), m 62 61, og 63 (.fadd 7 (t 1)) 62 true, lg 64 63 62 true, og 65 (.callf 42 [(t 64)]) 62 true, o 66 (.pick (t 62) (t 65) (.c (.d (.b false)))), m 2 66])
 .ret)
 .skip))
 (.seq (.seq (.reg [o 67 (.fadd 0 (t 1)), l 68 67, o 69 (b .eql (t 68) (.c (.d (.i .u8 4))))])
 (.cond (t 69)
 (.seq (.reg [o 70 (.fadd 2 (t 1)), l 71 70, o 72 (b .geq (t 71) (k 1)), m 73 72, og 74 (.fadd 3 (t 1)) 73 true, og 75 (.load true 4 (t 74)) 73 true, og 76 (.callf 43 [(t 75)]) 73 true, o 77 (.pick (t 73) (t 76) (.c (.d (.b false)))), m 78 77, og 79 (.fadd 7 (t 1)) 78 true, lg 80 79 78 true, og 81 (.len 1 (t 80)) 78 true, og 82 (b .eql (t 81) (k 0)) 78 true, o 83 (.pick (t 78) (t 82) (.c (.d (.b false)))), m 2 83])
 .ret)
 .skip))
 (.seq (.reg [o 84 (.fadd 2 (t 1)), l 85 84, o 86 (b .eql (t 85) (k 0)), m 87 86, og 88 (.fadd 3 (t 1)) 87 true, og 89 (.load true 4 (t 88)) 87 true, og 90 (.callf 43 [(t 89)]) 87 true, o 91 (.pick (t 87) (t 90) (.c (.d (.b false)))), m 92 91, og 93 (.fadd 7 (t 1)) 92 true, lg 94 93 92 true, og 95 (.len 1 (t 94)) 92 true, og 96 (b .eql (t 95) (k 0)) 92 true, o 97 (.pick (t 92) (t 96) (.c (.d (.b false)))), m 2 97])
 .ret))))))), false⟩
def a26 : AFn := ⟨53, [.tmp 2],
 (.seq (.reg [o 1 (.box 32 (t 0)), o 2 (.mv (.c .nilsl))])
 (.seq (.reg [o 4 (.fadd 0 (t 1)), l 5 4, o 6 (.cvi .i64 (t 5)), o 7 (.callf 46 [(t 6)]), m 3 7])
 (.seq (.seq (.reg [o 8 (.fadd 0 (t 1)), l 9 8, o 10 (b .eql (t 9) (.c (.d (.i .u8 1))))])
 (.cond (t 10)
 (.seq (.reg [m 11 3, o 12 (.fadd 7 (t 1)), l 13 12, o 14 (.callf 47 [(t 13)]), o 15 (.app 5 1 1 false (t 11) (t 14)), m 3 15])
 (.seq (.reg [m 16 3, o 17 (.fadd 8 (t 1)), l 18 17, o 19 (.callf 46 [(t 18)]), o 20 (.app 5 1 1 false (t 16) (t 19)), m 2 20])
 .ret))
 .skip))
 (.seq (.reg [m 21 3, o 22 (.fadd 1 (t 1)), l 23 22, o 24 (.callf 48 [(t 23)]), o 25 (.app 5 1 1 false (t 21) (t 24)), m 3 25])
 (.seq (.seq (.reg [o 26 (.fadd 0 (t 1)), l 27 26, o 28 (b .eql (t 27) (.c (.d (.i .u8 3)))), m 29 28, og 30 (.fadd 0 (t 1)) 29 false, lg 31 30 29 false, og 32 (b .eql (t 31) (.c (.d (.i .u8 4)))) 29 false, o 33 (.pick (t 29) (.c (.d (.b true))) (t 32))])
 (.cond (t 33)
 (.reg [m 34 3, o 35 (.fadd 2 (t 1)), l 36 35, o 37 (.callf 46 [(t 36)]), o 38 (.app 5 1 1 false (t 34) (t 37)), m 3 38])
 .skip))
 (.seq (.seq (.reg [o 39 (.fadd 0 (t 1)), l 40 39, o 41 (b .eql (t 40) (.c (.d (.i .u8 3))))])
 (.cond (t 41)
 (.seq (.reg [m 42 3, o 43 (.fadd 3 (t 1)), o 44 (.load true 4 (t 43)), o 45 (.callf 49 [(t 44)]), o 46 (.app 5 1 1 false (t 42) (t 45)), m 3 46])
 (.reg [m 47 3, o 48 (.fadd 7 (t 1)), l 49 48, o 50 (.callf 47 [(t 49)]), o 51 (.app 5 1 1 false (t 47) (t 50)), m 3 51]))
 .skip))
 (.seq (.reg [m 52 3, m 2 52])
 .ret))))))), false⟩
def a27 : AFn := ⟨50, [.tmp 2, .tmp 3],
 (.seq (.reg [o 2 (.mv (.c .nilsl)), o 3 (.mv (k 0))])
 (.seq (.seq (.reg [m 10 0, o 11 (.len 1 (t 10)), o 12 (b .lss (t 11) (k 1)), m 13 12, mg 14 0 13 false, og 15 (.len 1 (t 14)) 13 false, og 16 (b .gtr (t 15) (k 1024)) 13 false, o 17 (.pick (t 13) (.c (.d (.b true))) (t 16))])
 (.cond (t 17)
 (.seq (.reg [o 2 (.mv (.c .nilsl)), o 3 (.mv (k 34))])
 .ret)
 .skip))
 (.seq (.reg [o 4 (.mv (.c .nilsl))])
 (.seq (.seq (.reg [o 5 (.mv (k 0))])
 (.blk 0 (.loop (.seq (.seq (.reg [m 18 5, m 19 0, o 20 (.len 1 (t 19)), o 21 (b .lss (t 18) (t 20))])
 (.cond (t 21)
 .skip
 (.exit 0)))
 (.seq (.blk 1 (.seq (.reg [m 25 0, m 26 5, o 27 (.iaS 1 (t 25) (t 26)), l 28 27, o 29 (.build [(.d (.i .u8 0)), .nilsl] [(0, 1, (.c (.d (.i .u8 1)))), (1, 1, (t 28))]), o 30 (.callf 50 [(t 29)]), m 24 30, o 31 (.extr (t 24) 0), o 32 (.extr (t 24) 1), m 6 31, m 7 32])
 (.seq (.seq (.reg [m 33 7, o 34 (b .neq (t 33) (k 0))])
 (.cond (t 34)
 (.seq (.reg [o 2 (.mv (.c .nilsl)), o 3 (.mv (k 31))])
 .ret)
 .skip))
 (.reg [m 35 4, m 36 6, o 37 (.app 5 1 1 false (t 35) (t 36)), m 4 37]))))
 (.reg [m 22 5, o 23 (b .add (t 22) (k 1)), m 5 23]))))))
 (.seq (.reg [m 39 0, o 40 (.len 1 (t 39)), o 41 (.callf 51 [(t 40)]), o 42 (.slSl 1 (t 41) none (some (k 2)) none), o 43 (.build [(.d (.i .u8 0)), .nilsl] [(0, 1, (.c (.d (.i .u8 2)))), (1, 1, (t 42))]), o 44 (.callf 50 [(t 43)]), m 38 44, o 45 (.extr (t 38) 0), o 46 (.extr (t 38) 1), m 8 45, m 9 46])
 (.seq (.reg [m 47 4, m 48 8, o 49 (.app 5 1 1 false (t 47) (t 48)), m 2 49, o 3 (.mv (k 0))])
 .ret)))))), false⟩
def a28 : AFn := ⟨27, [.tmp 2],
 (.seq (.reg [o 2 (.mv (.c .nilsl))])
 (.seq (.reg [o 3 (.mv (.c .nilsl))])
 (.seq (.blk 0 (.loop (.seq (.seq (.reg [m 4 0, o 5 (.len 1 (t 4)), o 6 (b .gtr (t 5) (k 4096))])
 (.cond (t 6)
 .skip
 (.exit 0)))
 (.blk 1 (.seq (.reg [m 7 3, m 8 0, o 9 (.slSl 1 (t 8) none (some (k 4096)) none), o 10 (.bsl 54 1 1 [.nilsl] [(0, 1, (t 9))]), o 11 (.app 54 1 24 false (t 7) (t 10)), m 3 11])
 (.reg [m 12 0, o 13 (.slSl 1 (t 12) (some (k 4096)) none none), m 0 13]))))))
 (.seq (.seq (.reg [m 14 0, o 15 (.len 1 (t 14)), o 16 (b .gtr (t 15) (k 0)), m 17 16, mg 18 3 17 false, og 19 (.len 1 (t 18)) 17 false, og 20 (b .eql (t 19) (k 0)) 17 false, o 21 (.pick (t 17) (.c (.d (.b true))) (t 20))])
 (.cond (t 21)
 (.reg [m 22 3, m 23 0, o 24 (.bsl 54 1 1 [.nilsl] [(0, 1, (t 23))]), o 25 (.app 54 1 24 false (t 22) (t 24)), m 3 25])
 .skip))
 (.seq (.reg [m 26 3, m 2 26])
 .ret))))), true⟩
def a29 : AFn := ⟨15, [.tmp 6],
 (.seq (.reg [o 6 (.mv (.c (.d (.b false))))])
 (.seq (.reg [m 7 0, m 8 1, o 9 (b .geq (t 7) (t 8)), m 10 9, mg 11 0 10 true, mg 12 2 10 true, og 13 (b .leq (t 11) (t 12)) 10 true, o 14 (.pick (t 10) (t 13) (.c (.d (.b false)))), m 6 14])
 .ret)), false⟩
def a30 : AFn := ⟨87, [.tmp 2],
 (.seq (.reg [o 1 (.box 45 (t 0)), o 2 (.mv (.c (.d (.b false))))])
 (.seq (.seq (.reg [o 4 (.fadd 0 (t 1)), l 5 4, o 6 (.callf 44 [(t 5)]), o 7 (.un .not (t 6)), m 8 7, og 9 (.fadd 1 (t 1)) 8 false, lg 10 9 8 false, og 11 (b .neq (t 10) (.c (.d (.s [])))) 8 false, mg 12 11 8 false, og 13 (.fadd 1 (t 1)) 12 true, lg 14 13 12 true, og 15 (.callf 52 [(t 14)]) 12 true, og 16 (.un .not (t 15)) 12 true, og 17 (.pick (t 12) (t 16) (.c (.d (.b false)))) 8 false, o 18 (.pick (t 8) (.c (.d (.b true))) (t 17)), m 19 18, og 20 (.fadd 2 (t 1)) 19 false, lg 21 20 19 false, og 22 (b .gtr (t 21) (.c (.d (.i .u8 2)))) 19 false, o 23 (.pick (t 19) (.c (.d (.b true))) (t 22)), m 24 23, og 25 (.fadd 9 (t 1)) 24 false, lg 26 25 24 false, og 27 (b .gtr (t 26) (.c (.d (.i .u8 6)))) 24 false, o 28 (.pick (t 24) (.c (.d (.b true))) (t 27))])
 (.cond (t 28)
 (.seq (.reg [o 2 (.mv (.c (.d (.b false))))])
 .ret)
 .skip))
 (.seq (.seq (.reg [o 3 (.mv (k 0))])
 (.blk 0 (.loop (.seq (.seq (.reg [m 29 3, o 30 (.fadd 6 (t 1)), l 31 30, o 32 (.len 1 (t 31)), o 33 (b .lss (t 29) (t 32))])
 (.cond (t 33)
 .skip
 (.exit 0)))
 (.seq (.blk 1 (.seq (.reg [o 36 (.fadd 6 (t 1)), l 37 36, m 38 3, o 39 (.iaS 1 (t 37) (t 38)), l 40 39, o 41 (.callf 29 [(t 40), (k 0), (k 4799)]), o 42 (.un .not (t 41))])
 (.cond (t 42)
 (.seq (.reg [o 2 (.mv (.c (.d (.b false))))])
 .ret)
 .skip)))
 (.reg [m 34 3, o 35 (b .add (t 34) (k 1)), m 3 35]))))))
 (.seq (.reg [o 43 (.fadd 3 (t 1)), l 44 43, o 45 (.callf 29 [(t 44), (k 0), (k 12)]), m 46 45, og 47 (.fadd 4 (t 1)) 46 true, lg 48 47 46 true, og 49 (.callf 29 [(t 48), (k (-1)), (k 4799)]) 46 true, o 50 (.pick (t 46) (t 49) (.c (.d (.b false)))), m 51 50, og 52 (.fadd 5 (t 1)) 51 true, lg 53 52 51 true, og 54 (.callf 29 [(t 53), (k (-1)), (k 999999)]) 51 true, o 55 (.pick (t 51) (t 54) (.c (.d (.b false)))), m 56 55, og 57 (.fadd 6 (t 1)) 56 true, lg 58 57 56 true, og 59 (.len 1 (t 58)) 56 true, og 60 (b .leq (t 59) (k 21)) 56 true, o 61 (.pick (t 56) (t 60) (.c (.d (.b false)))), m 62 61, og 63 (.fadd 7 (t 1)) 62 true, lg 64 63 62 true, og 65 (.callf 29 [(t 64), (k 0), (k 40)]) 62 true, o 66 (.pick (t 62) (t 65) (.c (.d (.b false)))), m 67 66, og 68 (.fadd 8 (t 1)) 67 true, lg 69 68 67 true, og 70 (.callf 29 [(t 69), (k 0), (k 400)]) 67 true, o 71 (.pick (t 67) (t 70) (.c (.d (.b false)))), m 72 71, og 73 (.fadd 10 (t 1)) 72 true, lg 74 73 72 true, og 75 (.callf 29 [(t 74), (k 0), (k 10)]) 72 true, o 76 (.pick (t 72) (t 75) (.c (.d (.b false)))), m 77 76, og 78 (.fadd 11 (t 1)) 77 true, lg 79 78 77 true, og 80 (b .geq (t 79) (k 0)) 77 true, o 81 (.pick (t 77) (t 80) (.c (.d (.b false)))), m 82 81, og 83 (.fadd 12 (t 1)) 82 true, og 84 (.load true 4 (t 83)) 82 true, og 85 (.callf 45 [(t 84)]) 82 true, o 86 (.pick (t 82) (t 85) (.c (.d (.b false)))), m 2 86])
 .ret)))), false⟩
def a31 : AFn := ⟨27, [.tmp 4],
 (.seq (.reg [o 2 (.box 26 (t 0)), o 4 (.mv (k 0))])
 (.seq (.reg [o 5 (.mv (k 0))])
 (.seq (.seq (.reg [o 8 (.fadd 6 (t 2)), l 9 8, o 10 (.len 1 (t 9)), o 11 (.mv (k 0))])
 (.blk 0 (.loop (.seq (.reg [o 12 (b .lss (t 11) (t 10))])
 (.seq (.cond (t 12)
 .skip
 (.exit 0))
 (.seq (.blk 1 (.seq (.reg [o 13 (.iaS 16 (t 9) (t 11)), o 14 (.load true 16 (t 13)), o 7 (.alloc 45 z2), u (.store 16 (t 7) (t 14))])
 (.seq (.reg [m 15 1, o 16 (.load true 16 (t 7)), o 17 (.callv (t 15) [(t 16)])])
 (.cond (t 17)
 (.reg [m 18 5, o 19 (.load true 16 (t 7)), o 20 (.fadd 0 (t 2)), o 21 (.fadd 3 (t 20)), l 22 21, o 23 (.callf 17 [(t 19), (t 22)]), o 24 (b .add (t 18) (t 23)), m 5 24])
 .skip))))
 (.reg [o 25 (b .add (t 11) (k 1)), m 11 25])))))))
 (.seq (.reg [m 26 5, m 4 26])
 .ret)))), false⟩
def a32 : AFn := ⟨3, [.tmp 2],
 (.seq (.reg [o 1 (.box 45 (t 0)), o 2 (.mv (.c (.d (.b false))))])
 (.seq (.reg [o 2 (.mv (.c (.d (.b true))))])
 .ret)), false⟩
def a33 : AFn := ⟨8, [.tmp 3],
 (.seq (.reg [o 2 (.box 45 (t 0)), o 3 (.mv (.c (.d (.b false))))])
 (.seq (.reg [o 4 (.fadd 3 (t 2)), l 5 4, l 6 1, o 7 (b .eql (t 5) (t 6)), m 3 7])
 .ret)), false⟩
def a34 : AFn := ⟨20, [.tmp 2, .tmp 3],
 (.seq (.reg [o 1 (.box 53 (t 0)), o 2 (.mv (.c .nilsl)), o 3 (.mv (k 0))])
 (.seq (.seq (.reg [o 4 (.fadd 0 (t 1)), l 5 4])
 (.blk 0 (.seq (.reg [o 7 (b .eql (t 5) (.c (.d (.i .u8 1)))), m 6 7])
 (.cond (t 6)
 (.seq (.reg [o 8 (.fadd 2 (t 1)), o 9 (.load true 9 (t 8)), o 10 (.callf 53 [(t 9)]), o 11 (.extr (t 10) 0), o 12 (.extr (t 10) 1), m 2 11, m 3 12])
 .ret)
 (.seq (.reg [o 14 (b .eql (t 5) (.c (.d (.i .u8 2)))), m 13 14])
 (.cond (t 13)
 (.seq (.reg [o 15 (.fadd 11 (t 1)), o 16 (.load true 8 (t 15)), o 17 (.callf 54 [(t 16)]), o 18 (.extr (t 17) 0), o 19 (.extr (t 17) 1), m 2 18, m 3 19])
 .ret)
 .skip))))))
 (.seq (.reg [o 2 (.mv (.c .nilsl)), o 3 (.mv (k 2))])
 .ret))), false⟩
def a35 : AFn := ⟨18, [.tmp 2],
 (.seq (.reg [o 2 (.mv (.c .nilsl))])
 (.seq (.reg [o 3 (.alloc 48 [.nilsl])])
 (.seq (.seq (.reg [m 5 0, o 6 (.clone 56 5 1 1 false (t 5)), o 7 (.callf 55 [(t 6), (k 4096)])])
 (.blk 0 (.rfun (t 7) [8] (.reg [m 4 8]) (.blk 1 (.reg [l 9 3, m 10 4, o 11 (.bsl 54 1 1 [.nilsl] [(0, 1, (t 10))]), o 12 (.app 54 1 24 false (t 9) (t 11)), u (.store 1 (t 3) (t 12))])))))
 (.seq (.seq (.reg [l 13 3, o 14 (.len 1 (t 13)), o 15 (b .eql (t 14) (k 0))])
 (.cond (t 15)
 (.seq (.reg [o 16 (.bsl 54 1 1 [.nilsl] [(0, 1, (.c .nilsl))]), m 2 16])
 .ret)
 .skip))
 (.seq (.reg [l 17 3, m 2 17])
 .ret))))), false⟩
def a36 : AFn := ⟨22, [.tmp 2],
 (.seq (.reg [o 1 (.box 53 (t 0)), o 2 (.mv (.c .nilsl))])
 (.seq (.reg [o 5 (.fadd 0 (t 1)), l 6 5, o 7 (.bsl 5 1 1 [(.d (.i .u8 0))] [(0, 1, (t 6))]), m 3 7])
 (.seq (.seq (.reg [o 8 (.mv (k 0))])
 (.blk 0 (.loop (.seq (.reg [o 9 (b .lss (t 8) (k 8))])
 (.seq (.cond (t 9)
 .skip
 (.exit 0))
 (.seq (.blk 1 (.seq (.reg [m 10 8, m 4 10])
 (.reg [m 11 3, o 12 (.fadd 1 (t 1)), l 13 12, m 14 4, o 15 (b .mul (k 8) (t 14)), o 16 (b .shr (t 13) (t 15)), o 17 (.cvi .u8 (t 16)), o 18 (.bsl 5 1 1 [(.d (.i .u8 0))] [(0, 1, (t 17))]), o 19 (.app 5 1 1 false (t 11) (t 18)), m 3 19])))
 (.reg [o 20 (b .add (t 8) (k 1)), m 8 20])))))))
 (.seq (.reg [m 21 3, m 2 21])
 .ret)))), false⟩
def a37 : AFn := ⟨17, [.tmp 2],
 (.seq (.reg [o 2 (.mv (k 0))])
 (.seq (.reg [o 3 (.mv (.c (.d (.fn (.func 57) [] []))))])
 (.seq (.blk 0 (.seq (.reg [m 5 0, o 6 (.len 1 (t 5)), o 7 (b .eql (t 6) (k 0)), m 8 7, mg 9 0 8 false, og 10 (.len 1 (t 9)) 8 false, og 11 (b .gtr (t 10) (k 1024)) 8 false, o 12 (.pick (t 8) (.c (.d (.b true))) (t 11)), m 4 12])
 (.cond (t 4)
 (.seq (.reg [o 2 (.mv (k 34))])
 .ret)
 (.seq (.reg [m 14 0, m 15 3, o 16 (.callf 58 [(t 14), (t 15)]), m 13 16])
 (.cond (t 13)
 (.seq (.reg [o 2 (.mv (k 31))])
 .ret)
 .skip)))))
 (.seq (.reg [o 2 (.mv (k 0))])
 .ret)))), false⟩
def a40 : AFn := ⟨28, [.tmp 4],
 (.seq (.reg [o 2 (.box 29 (t 0)), o 4 (.mv (k 0))])
 (.seq (.seq (.reg [m 8 1, o 9 (b .eql (t 8) (k 0))])
 (.cond (t 9)
 (.seq (.reg [o 4 (.mv (k 1000000))])
 .ret)
 .skip))
 (.seq (.reg [o 5 (.mv (k 1))])
 (.seq (.seq (.reg [o 10 (.fadd 3 (t 2)), l 11 10, o 12 (.len 1 (t 11)), o 13 (.mv (k 0))])
 (.blk 0 (.loop (.seq (.reg [o 14 (b .lss (t 13) (t 12))])
 (.seq (.cond (t 14)
 .skip
 (.exit 0))
 (.seq (.blk 1 (.seq (.reg [o 15 (.iaS 4 (t 11) (t 13)), o 16 (.load true 4 (t 15)), o 7 (.alloc 29 z4), u (.store 4 (t 7) (t 16))])
 (.seq (.reg [m 17 5, o 18 (.load true 4 (t 7)), m 19 1, o 20 (b .sub (t 19) (k 1)), o 21 (.callf 40 [(t 18), (t 20)]), o 22 (b .add (t 17) (t 21)), m 5 22])
 (.seq (.reg [m 23 5, o 24 (b .gtr (t 23) (k 1000000))])
 (.cond (t 24)
 (.seq (.reg [m 25 5, m 4 25])
 .ret)
 .skip)))))
 (.reg [o 26 (b .add (t 13) (k 1)), m 13 26])))))))
 (.seq (.reg [m 27 5, m 4 27])
 .ret))))), false⟩
def a41 : AFn := ⟨11, [.tmp 2],
 (.seq (.reg [o 2 (.mv (k 0))])
 (.seq (.seq (.reg [m 3 0, o 4 (b .lss (t 3) (k 0)), m 5 4, mg 6 0 5 false, og 7 (b .gtr (t 6) (k 4096)) 5 false, o 8 (.pick (t 5) (.c (.d (.b true))) (t 7))])
 (.cond (t 8)
 (.seq (.reg [o 2 (.mv (k 0))])
 .ret)
 .skip))
 (.seq (.reg [m 9 0, o 10 (b .add (k 9) (t 9)), m 2 10])
 .ret))), false⟩
def a42 : AFn := ⟨19, [.tmp 2],
 (.seq (.reg [o 2 (.mv (.c (.d (.b false))))])
 (.seq (.seq (.reg [o 3 (.mv (k 0))])
 (.blk 0 (.loop (.seq (.seq (.reg [m 4 3, m 5 0, o 6 (.len 1 (t 5)), o 7 (b .lss (t 4) (t 6))])
 (.cond (t 7)
 .skip
 (.exit 0)))
 (.seq (.blk 1 (.seq (.reg [m 10 0, m 11 3, o 12 (.iaS 6 (t 10) (t 11)), o 13 (.load true 6 (t 12)), o 14 (.callf 62 [(t 13)]), o 15 (.un .not (t 14))])
 (.cond (t 15)
 (.seq (.reg [o 2 (.mv (.c (.d (.b false))))])
 .ret)
 .skip)))
 (.reg [m 8 3, o 9 (b .add (t 8) (k 1)), m 3 9]))))))
 (.seq (.reg [m 16 0, o 17 (.len 1 (t 16)), o 18 (b .leq (t 17) (k 40)), m 2 18])
 .ret))), false⟩
def a43 : AFn := ⟨6, [.tmp 2],
 (.seq (.reg [o 1 (.box 29 (t 0)), o 2 (.mv (.c (.d (.b false))))])
 (.seq (.reg [o 3 (.load true 4 (t 1)), o 4 (.build z4 []), o 5 (.callf 63 [(t 3), (t 4)]), m 2 5])
 .ret)), false⟩
def a44 : AFn := ⟨28, [.tmp 2],
 (.seq (.reg [o 2 (.mv (.c (.d (.b false))))])
 (.seq (.seq (.reg [o 3 (.mv (k 0))])
 (.blk 0 (.loop (.seq (.seq (.reg [m 4 3, m 5 0, o 6 (.len 0 (t 5)), o 7 (b .lss (t 4) (t 6))])
 (.cond (t 7)
 .skip
 (.exit 0)))
 (.seq (.blk 1 (.seq (.reg [m 10 0, m 11 3, o 12 (.ixS (t 10) (t 11)), o 13 (b .lss (t 12) (.c (.d (.i .u8 33)))), m 14 13, mg 15 0 14 false, mg 16 3 14 false, og 17 (.ixS (t 15) (t 16)) 14 false, og 18 (b .gtr (t 17) (.c (.d (.i .u8 126)))) 14 false, o 19 (.pick (t 14) (.c (.d (.b true))) (t 18))])
 (.cond (t 19)
 (.seq (.reg [o 2 (.mv (.c (.d (.b false))))])
 .ret)
 .skip)))
 (.reg [m 8 3, o 9 (b .add (t 8) (k 1)), m 3 9]))))))
 (.seq (.reg [m 20 0, o 21 (.len 0 (t 20)), o 22 (b .geq (t 21) (k 1)), m 23 22, mg 24 0 23 true, og 25 (.len 0 (t 24)) 23 true, og 26 (b .leq (t 25) (k 400)) 23 true, o 27 (.pick (t 23) (t 26) (.c (.d (.b false)))), m 2 27])
 .ret))), false⟩
def a45 : AFn := ⟨15, [.tmp 2],
 (.seq (.reg [o 1 (.box 29 (t 0)), o 2 (.mv (.c (.d (.b false))))])
 (.seq (.reg [o 3 (.load true 4 (t 1)), o 4 (.callf 64 [(t 3)]), m 5 4, og 6 (.load true 4 (t 1)) 5 true, og 7 (.callf 65 [(t 6)]) 5 true, og 8 (b .leq (t 7) (k 6)) 5 true, o 9 (.pick (t 5) (t 8) (.c (.d (.b false)))), m 10 9, og 11 (.load true 4 (t 1)) 10 true, og 12 (.callf 66 [(t 11)]) 10 true, og 13 (b .leq (t 12) (k 200)) 10 true, o 14 (.pick (t 10) (t 13) (.c (.d (.b false)))), m 2 14])
 .ret)), false⟩
def a46 : AFn := ⟨23, [.tmp 2],
 (.seq (.reg [o 2 (.mv (.c .nilsl))])
 (.seq (.reg [m 5 0, o 6 (.callf 67 [(t 5)]), m 3 6])
 (.seq (.reg [o 4 (.mv (.c .nilsl))])
 (.seq (.blk 0 (.loop (.seq (.seq (.reg [m 7 3, o 8 (b .geq (t 7) (.c (.d (.i .u64 128))))])
 (.cond (t 8)
 .skip
 (.exit 0)))
 (.blk 1 (.seq (.reg [m 9 4, m 10 3, o 11 (b .rem (t 10) (.c (.d (.i .u64 128)))), o 12 (.cvi .u8 (t 11)), o 13 (b .add (t 12) (.c (.d (.i .u8 128)))), o 14 (.bsl 5 1 1 [(.d (.i .u8 0))] [(0, 1, (t 13))]), o 15 (.app 5 1 1 false (t 9) (t 14)), m 4 15])
 (.reg [m 16 3, o 17 (b .quo (t 16) (.c (.d (.i .u64 128)))), m 3 17]))))))
 (.seq (.reg [m 18 4, m 19 3, o 20 (.cvi .u8 (t 19)), o 21 (.bsl 5 1 1 [(.d (.i .u8 0))] [(0, 1, (t 20))]), o 22 (.app 5 1 1 false (t 18) (t 21)), m 2 22])
 .ret))))), false⟩
def a47 : AFn := ⟨71, [.tmp 2],
 (.seq (.reg [o 2 (.mv (.c .nilsl))])
 (.seq (.reg [m 7 0, o 8 (.len 1 (t 7)), o 9 (.callf 46 [(t 8)]), m 3 9])
 (.seq (.seq (.reg [o 4 (.mv (k 0))])
 (.blk 0 (.loop (.seq (.seq (.reg [m 10 4, m 11 0, o 12 (.len 1 (t 11)), o 13 (b .lss (t 10) (t 12))])
 (.cond (t 13)
 .skip
 (.exit 0)))
 (.seq (.blk 1 (.seq (.reg [m 16 0, m 17 4, o 18 (.iaS 6 (t 16) (t 17)), o 19 (.load true 6 (t 18)), o 5 (.alloc 60 z5), u (.store 6 (t 5) (t 19))])
 (.seq (.reg [m 20 3, o 21 (.fadd 0 (t 5)), l 22 21, o 23 (.callf 48 [(t 22)]), o 24 (.app 5 1 1 false (t 20) (t 23)), m 3 24])
 (.seq (.reg [m 25 3, o 26 (.fadd 1 (t 5)), l 27 26, o 28 (.cvi .i64 (t 27)), o 29 (.callf 46 [(t 28)]), o 30 (.app 5 1 1 false (t 25) (t 29)), m 3 30])
 (.seq (.reg [m 31 3, o 32 (.fadd 2 (t 5)), l 33 32, o 34 (.len 1 (t 33)), o 35 (.callf 46 [(t 34)]), o 36 (.app 5 1 1 false (t 31) (t 35)), m 3 36])
 (.seq (.seq (.reg [o 6 (.mv (k 0))])
 (.blk 2 (.loop (.seq (.seq (.reg [m 37 6, o 38 (.fadd 2 (t 5)), l 39 38, o 40 (.len 1 (t 39)), o 41 (b .lss (t 37) (t 40))])
 (.cond (t 41)
 .skip
 (.exit 2)))
 (.seq (.blk 3 (.reg [m 44 3, o 45 (.fadd 2 (t 5)), l 46 45, m 47 6, o 48 (.iaS 1 (t 46) (t 47)), l 49 48, o 50 (.callf 48 [(t 49)]), o 51 (.app 5 1 1 false (t 44) (t 50)), m 3 51]))
 (.reg [m 42 6, o 43 (b .add (t 42) (k 1)), m 6 43]))))))
 (.seq (.reg [m 52 3, o 53 (.fadd 5 (t 5)), l 54 53, o 55 (.callf 46 [(t 54)]), o 56 (.app 5 1 1 false (t 52) (t 55)), m 3 56])
 (.seq (.reg [o 57 (.fadd 1 (t 5)), l 58 57, o 59 (b .eql (t 58) (.c (.d (.i .u8 1))))])
 (.cond (t 59)
 (.seq (.reg [m 60 3, o 61 (.fadd 3 (t 5)), l 62 61, o 63 (.callf 48 [(t 62)]), o 64 (.app 5 1 1 false (t 60) (t 63)), m 3 64])
 (.reg [m 65 3, o 66 (.fadd 4 (t 5)), l 67 66, o 68 (.callf 46 [(t 67)]), o 69 (.app 5 1 1 false (t 65) (t 68)), m 3 69]))
 .skip)))))))))
 (.reg [m 14 4, o 15 (b .add (t 14) (k 1)), m 4 15]))))))
 (.seq (.reg [m 70 3, m 2 70])
 .ret)))), false⟩
def a48 : AFn := ⟨21, [.tmp 2],
 (.seq (.reg [o 2 (.mv (.c .nilsl))])
 (.seq (.reg [m 5 0, o 6 (.len 0 (t 5)), o 7 (.callf 46 [(t 6)]), m 3 7])
 (.seq (.seq (.reg [o 4 (.mv (k 0))])
 (.blk 0 (.loop (.seq (.seq (.reg [m 8 4, m 9 0, o 10 (.len 0 (t 9)), o 11 (b .lss (t 8) (t 10))])
 (.cond (t 11)
 .skip
 (.exit 0)))
 (.seq (.blk 1 (.reg [m 14 3, m 15 0, m 16 4, o 17 (.ixS (t 15) (t 16)), o 18 (.bsl 5 1 1 [(.d (.i .u8 0))] [(0, 1, (t 17))]), o 19 (.app 5 1 1 false (t 14) (t 18)), m 3 19]))
 (.reg [m 12 4, o 13 (b .add (t 12) (k 1)), m 4 13]))))))
 (.seq (.reg [m 20 3, m 2 20])
 .ret)))), false⟩
def a49 : AFn := ⟨47, [.tmp 2],
 (.seq (.reg [o 1 (.box 29 (t 0)), o 2 (.mv (.c .nilsl))])
 (.seq (.reg [o 5 (.fadd 0 (t 1)), l 6 5, o 7 (.cvi .i64 (t 6)), o 8 (.callf 46 [(t 7)]), m 3 8])
 (.seq (.seq (.reg [o 9 (.fadd 0 (t 1)), l 10 9, o 11 (b .eql (t 10) (.c (.d (.i .u8 0))))])
 (.cond (t 11)
 (.seq (.reg [m 12 3, o 13 (.fadd 1 (t 1)), l 14 13, o 15 (.callf 46 [(t 14)]), o 16 (.app 5 1 1 false (t 12) (t 15)), m 2 16])
 .ret)
 .skip))
 (.seq (.seq (.reg [o 17 (.fadd 0 (t 1)), l 18 17, o 19 (b .eql (t 18) (.c (.d (.i .u8 1))))])
 (.cond (t 19)
 (.seq (.reg [m 20 3, o 21 (.fadd 2 (t 1)), l 22 21, o 23 (.callf 48 [(t 22)]), o 24 (.app 5 1 1 false (t 20) (t 23)), m 2 24])
 .ret)
 .skip))
 (.seq (.reg [m 25 3, o 26 (.fadd 3 (t 1)), l 27 26, o 28 (.len 1 (t 27)), o 29 (.callf 46 [(t 28)]), o 30 (.app 5 1 1 false (t 25) (t 29)), m 3 30])
 (.seq (.seq (.reg [o 4 (.mv (k 0))])
 (.blk 0 (.loop (.seq (.seq (.reg [m 31 4, o 32 (.fadd 3 (t 1)), l 33 32, o 34 (.len 1 (t 33)), o 35 (b .lss (t 31) (t 34))])
 (.cond (t 35)
 .skip
 (.exit 0)))
 (.seq (.blk 1 (.reg [m 38 3, o 39 (.fadd 3 (t 1)), l 40 39, m 41 4, o 42 (.iaS 4 (t 40) (t 41)), o 43 (.load true 4 (t 42)), o 44 (.callf 49 [(t 43)]), o 45 (.app 5 1 1 false (t 38) (t 44)), m 3 45]))
 (.reg [m 36 4, o 37 (b .add (t 36) (k 1)), m 4 37]))))))
 (.seq (.reg [m 46 3, m 2 46])
 .ret))))))), false⟩
def a50 : AFn := ⟨38, [.tmp 2, .tmp 3],
 (.seq (.reg [o 1 (.box 75 (t 0)), o 2 (.mv (.c .nilsl)), o 3 (.mv (k 0))])
 (.seq (.seq (.reg [o 5 (.fadd 0 (t 1)), l 6 5, o 7 (b .lss (t 6) (.c (.d (.i .u8 1)))), m 8 7, og 9 (.fadd 0 (t 1)) 8 false, lg 10 9 8 false, og 11 (b .gtr (t 10) (.c (.d (.i .u8 2)))) 8 false, o 12 (.pick (t 8) (.c (.d (.b true))) (t 11))])
 (.cond (t 12)
 (.seq (.reg [o 2 (.mv (.c .nilsl)), o 3 (.mv (k 30))])
 .ret)
 .skip))
 (.seq (.seq (.reg [o 13 (.fadd 1 (t 1)), l 14 13, o 15 (.len 1 (t 14)), o 16 (b .gtr (t 15) (k 4096))])
 (.cond (t 16)
 (.seq (.reg [o 2 (.mv (.c .nilsl)), o 3 (.mv (k 31))])
 .ret)
 .skip))
 (.seq (.reg [o 4 (.mv (.c .nilsl))])
 (.seq (.reg [m 17 4, o 18 (.fadd 0 (t 1)), l 19 18, o 20 (.bsl 5 1 1 [(.d (.i .u8 0))] [(0, 1, (t 19))]), o 21 (.app 5 1 1 false (t 17) (t 20)), m 4 21])
 (.seq (.reg [m 22 4, o 23 (.fadd 1 (t 1)), l 24 23, o 25 (.len 1 (t 24)), o 26 (.callf 51 [(t 25)]), o 27 (.app 5 1 1 false (t 22) (t 26)), m 4 27])
 (.seq (.reg [m 28 4, o 29 (.fadd 1 (t 1)), l 30 29, o 31 (.app 5 1 1 false (t 28) (t 30)), m 4 31])
 (.seq (.reg [m 32 4, o 33 (.callf 68 [(t 32)]), o 34 (.cvi .i64 (t 33)), o 35 (.callf 51 [(t 34)]), m 36 4, o 37 (.app 5 1 1 false (t 35) (t 36)), m 2 37, o 3 (.mv (k 0))])
 .ret)))))))), false⟩
def a51 : AFn := ⟨18, [.tmp 2],
 (.seq (.reg [o 2 (.mv (.c .nilsl))])
 (.seq (.reg [o 3 (.mv (.c .nilsl))])
 (.seq (.seq (.reg [o 4 (.mv (k 0))])
 (.blk 0 (.loop (.seq (.seq (.reg [m 5 4, o 6 (b .lss (t 5) (k 4))])
 (.cond (t 6)
 .skip
 (.exit 0)))
 (.seq (.blk 1 (.seq (.reg [m 9 3, m 10 0, o 11 (b .rem (t 10) (k 256)), o 12 (.cvi .u8 (t 11)), o 13 (.bsl 5 1 1 [(.d (.i .u8 0))] [(0, 1, (t 12))]), o 14 (.app 5 1 1 false (t 9) (t 13)), m 3 14])
 (.reg [m 15 0, o 16 (b .quo (t 15) (k 256)), m 0 16])))
 (.reg [m 7 4, o 8 (b .add (t 7) (k 1)), m 4 8]))))))
 (.seq (.reg [m 17 3, m 2 17])
 .ret)))), false⟩
def a52 : AFn := ⟨41, [.tmp 2],
 (.seq (.reg [o 2 (.mv (.c (.d (.b false))))])
 (.seq (.seq (.reg [o 3 (.mv (k 0))])
 (.blk 0 (.loop (.seq (.seq (.reg [m 5 3, m 6 0, o 7 (.len 0 (t 6)), o 8 (b .lss (t 5) (t 7))])
 (.cond (t 8)
 .skip
 (.exit 0)))
 (.seq (.blk 1 (.seq (.reg [m 11 0, m 12 3, o 13 (.ixS (t 11) (t 12)), m 4 13])
 (.seq (.reg [m 14 4, o 15 (b .geq (t 14) (.c (.d (.i .u8 97)))), m 16 15, mg 17 4 16 true, og 18 (b .leq (t 17) (.c (.d (.i .u8 122)))) 16 true, o 19 (.pick (t 16) (t 18) (.c (.d (.b false)))), m 20 19, mg 21 4 20 false, og 22 (b .geq (t 21) (.c (.d (.i .u8 48)))) 20 false, mg 23 22 20 false, mg 24 4 23 true, og 25 (b .leq (t 24) (.c (.d (.i .u8 57)))) 23 true, og 26 (.pick (t 23) (t 25) (.c (.d (.b false)))) 20 false, o 27 (.pick (t 20) (.c (.d (.b true))) (t 26)), m 28 27, mg 29 4 28 false, og 30 (b .eql (t 29) (.c (.d (.i .u8 95)))) 28 false, o 31 (.pick (t 28) (.c (.d (.b true))) (t 30)), o 32 (.un .not (t 31))])
 (.cond (t 32)
 (.seq (.reg [o 2 (.mv (.c (.d (.b false))))])
 .ret)
 .skip))))
 (.reg [m 9 3, o 10 (b .add (t 9) (k 1)), m 3 10]))))))
 (.seq (.reg [m 33 0, o 34 (.len 0 (t 33)), o 35 (b .geq (t 34) (k 1)), m 36 35, mg 37 0 36 true, og 38 (.len 0 (t 37)) 36 true, og 39 (b .leq (t 38) (k 20)) 36 true, o 40 (.pick (t 36) (t 39) (.c (.d (.b false)))), m 2 40])
 .ret))), false⟩
def a53 : AFn := ⟨52, [.tmp 2, .tmp 3],
 (.seq (.reg [o 1 (.box 32 (t 0)), o 2 (.mv (.c .nilsl)), o 3 (.mv (k 0))])
 (.seq (.seq (.reg [o 6 (.load true 9 (t 1)), o 7 (.callf 69 [(t 6)]), o 8 (.un .not (t 7))])
 (.cond (t 8)
 (.seq (.reg [o 2 (.mv (.c .nilsl)), o 3 (.mv (k 2))])
 .ret)
 .skip))
 (.seq (.reg [o 9 (.fadd 0 (t 1)), l 10 9, o 11 (.callf 70 [(t 10)]), m 4 11])
 (.seq (.reg [o 12 (.fadd 0 (t 1)), l 13 12, o 14 (.cvi .i64 (t 13)), o 15 (.callf 71 [(.c .nilsl), (t 14)]), m 5 15])
 (.seq (.seq (.reg [m 16 4, o 17 (b .and (t 16) (.c (.d (.i .u8 4)))), o 18 (b .neq (t 17) (.c (.d (.i .u8 0))))])
 (.cond (t 18)
 (.reg [m 19 5, o 20 (.fadd 1 (t 1)), l 21 20, o 22 (.callf 72 [(t 19), (t 21)]), m 5 22])
 .skip))
 (.seq (.seq (.reg [m 23 4, o 24 (b .and (t 23) (.c (.d (.i .u8 8)))), o 25 (b .neq (t 24) (.c (.d (.i .u8 0))))])
 (.cond (t 25)
 (.reg [m 26 5, o 27 (.fadd 2 (t 1)), l 28 27, o 29 (.callf 71 [(t 26), (t 28)]), m 5 29])
 .skip))
 (.seq (.seq (.reg [m 30 4, o 31 (b .and (t 30) (.c (.d (.i .u8 16)))), o 32 (b .neq (t 31) (.c (.d (.i .u8 0))))])
 (.cond (t 32)
 (.reg [m 33 5, o 34 (.fadd 3 (t 1)), o 35 (.load true 4 (t 34)), o 36 (.callf 73 [(t 33), (t 35)]), m 5 36])
 .skip))
 (.seq (.seq (.reg [m 37 4, o 38 (b .and (t 37) (.c (.d (.i .u8 1)))), o 39 (b .neq (t 38) (.c (.d (.i .u8 0))))])
 (.cond (t 39)
 (.reg [m 40 5, o 41 (.fadd 7 (t 1)), l 42 41, o 43 (.callf 74 [(t 40), (t 42)]), m 5 43])
 .skip))
 (.seq (.seq (.reg [m 44 4, o 45 (b .and (t 44) (.c (.d (.i .u8 2)))), o 46 (b .neq (t 45) (.c (.d (.i .u8 0))))])
 (.cond (t 46)
 (.reg [m 47 5, o 48 (.fadd 8 (t 1)), l 49 48, o 50 (.callf 71 [(t 47), (t 49)]), m 5 50])
 .skip))
 (.seq (.reg [m 51 5, m 2 51, o 3 (.mv (k 0))])
 .ret)))))))))), false⟩
def a55 : AFn := ⟨9, [.tmp 4],
 (.seq (.reg [o 2 (.box 54 (t 0)), o 3 (.box 3 (t 1)), o 4 (.mv (.c (.d .nilf)))])
 (.seq (.seq (.reg [l 5 3, o 6 (b .lss (t 5) (k 1))])
 (.cond (t 6)
 (.reg [o 7 (.mkif 9 (.c (.d (.s [99, 97, 110, 110, 111, 116, 32, 98, 101, 32, 108, 101, 115, 115, 32, 116, 104, 97, 110, 32, 49])))), u (.panic (t 7))])
 .skip))
 (.seq (.reg [o 8 (.mkfn (.func 80) [] [(t 2), (t 3)]), m 4 8])
 .ret))), false⟩
def a56 : AFn := ⟨8, [.tmp 2],
 (.seq (.reg [o 2 (.mv (.c .nilsl))])
 (.seq (.seq (.reg [m 3 0, o 4 (.bin .eql .nilS (t 3) (.c .nilsl))])
 (.cond (t 4)
 (.seq (.reg [o 2 (.mv (.c .nilsl))])
 .ret)
 .skip))
 (.seq (.reg [o 5 (.bsl 5 1 0 [(.d (.i .u8 0))] []), m 6 0, o 7 (.app 5 1 1 false (t 5) (t 6)), m 2 7])
 .ret))), false⟩
def a57 : AFn := ⟨6, [.tmp 2],
 (.seq (.reg [o 2 (.mv (.c (.d (.b false))))])
 (.seq (.reg [m 3 0, o 4 (.len 1 (t 3)), o 5 (b .gtr (t 4) (k 4096)), m 2 5])
 .ret)), false⟩
def a58 : AFn := ⟨9, [.tmp 4],
 (.seq (.reg [o 4 (.mv (.c (.d (.b false))))])
 (.seq (.reg [m 5 0, m 6 1, o 7 (.callf 81 [(t 5), (t 6)]), o 8 (b .geq (t 7) (k 0)), m 4 8])
 .ret)), false⟩
def a62 : AFn := ⟨67, [.tmp 2],
 (.seq (.reg [o 1 (.box 60 (t 0)), o 2 (.mv (.c (.d (.b false))))])
 (.seq (.seq (.reg [o 4 (.fadd 0 (t 1)), l 5 4, o 6 (.callf 52 [(t 5)]), o 7 (.un .not (t 6)), m 8 7, og 9 (.fadd 2 (t 1)) 8 false, lg 10 9 8 false, og 11 (.len 1 (t 10)) 8 false, og 12 (b .gtr (t 11) (k 20)) 8 false, o 13 (.pick (t 8) (.c (.d (.b true))) (t 12)), m 14 13, og 15 (.fadd 5 (t 1)) 14 false, lg 16 15 14 false, og 17 (b .lss (t 16) (k 0)) 14 false, o 18 (.pick (t 14) (.c (.d (.b true))) (t 17)), m 19 18, og 20 (.fadd 5 (t 1)) 19 false, lg 21 20 19 false, og 22 (b .gtr (t 21) (k 400)) 19 false, o 23 (.pick (t 19) (.c (.d (.b true))) (t 22))])
 (.cond (t 23)
 (.seq (.reg [o 2 (.mv (.c (.d (.b false))))])
 .ret)
 .skip))
 (.seq (.seq (.reg [o 3 (.mv (k 0))])
 (.blk 0 (.loop (.seq (.seq (.reg [m 24 3, o 25 (.fadd 2 (t 1)), l 26 25, o 27 (.len 1 (t 26)), o 28 (b .lss (t 24) (t 27))])
 (.cond (t 28)
 .skip
 (.exit 0)))
 (.seq (.blk 1 (.seq (.reg [o 31 (.fadd 2 (t 1)), l 32 31, m 33 3, o 34 (.iaS 1 (t 32) (t 33)), l 35 34, o 36 (.callf 52 [(t 35)]), o 37 (.un .not (t 36))])
 (.cond (t 37)
 (.seq (.reg [o 2 (.mv (.c (.d (.b false))))])
 .ret)
 .skip)))
 (.reg [m 29 3, o 30 (b .add (t 29) (k 1)), m 3 30]))))))
 (.seq (.seq (.reg [o 38 (.fadd 1 (t 1)), l 39 38, o 40 (b .eql (t 39) (.c (.d (.i .u8 0))))])
 (.cond (t 40)
 (.seq (.reg [o 41 (.fadd 3 (t 1)), l 42 41, o 43 (b .eql (t 42) (.c (.d (.s [])))), m 44 43, og 45 (.fadd 4 (t 1)) 44 true, lg 46 45 44 true, og 47 (b .eql (t 46) (k 0)) 44 true, o 48 (.pick (t 44) (t 47) (.c (.d (.b false)))), m 2 48])
 .ret)
 .skip))
 (.seq (.reg [o 49 (.fadd 1 (t 1)), l 50 49, o 51 (b .eql (t 50) (.c (.d (.i .u8 1)))), m 52 51, og 53 (.fadd 3 (t 1)) 52 true, lg 54 53 52 true, og 55 (.callf 52 [(t 54)]) 52 true, o 56 (.pick (t 52) (t 55) (.c (.d (.b false)))), m 57 56, og 58 (.fadd 4 (t 1)) 57 true, lg 59 58 57 true, og 60 (b .geq (t 59) (k 0)) 57 true, o 61 (.pick (t 57) (t 60) (.c (.d (.b false)))), m 62 61, og 63 (.fadd 4 (t 1)) 62 true, lg 64 63 62 true, og 65 (b .leq (t 64) (k 40)) 62 true, o 66 (.pick (t 62) (t 65) (.c (.d (.b false)))), m 2 66])
 .ret))))), false⟩
def a63 : AFn := ⟨53, [.tmp 4],
 (.seq (.reg [o 2 (.box 29 (t 0)), o 3 (.box 29 (t 1)), o 4 (.mv (.c (.d (.b false))))])
 (.seq (.seq (.reg [o 6 (.fadd 0 (t 2)), l 7 6, o 8 (.fadd 0 (t 3)), l 9 8, o 10 (b .neq (t 7) (t 9)), m 11 10, og 12 (.fadd 1 (t 2)) 11 false, lg 13 12 11 false, og 14 (.fadd 1 (t 3)) 11 false, lg 15 14 11 false, og 16 (b .neq (t 13) (t 15)) 11 false, o 17 (.pick (t 11) (.c (.d (.b true))) (t 16)), m 18 17, og 19 (.fadd 2 (t 2)) 18 false, lg 20 19 18 false, og 21 (.fadd 2 (t 3)) 18 false, lg 22 21 18 false, og 23 (b .neq (t 20) (t 22)) 18 false, o 24 (.pick (t 18) (.c (.d (.b true))) (t 23)), m 25 24, og 26 (.fadd 3 (t 2)) 25 false, lg 27 26 25 false, og 28 (.len 1 (t 27)) 25 false, og 29 (.fadd 3 (t 3)) 25 false, lg 30 29 25 false, og 31 (.len 1 (t 30)) 25 false, og 32 (b .neq (t 28) (t 31)) 25 false, o 33 (.pick (t 25) (.c (.d (.b true))) (t 32))])
 (.cond (t 33)
 (.seq (.reg [o 4 (.mv (.c (.d (.b false))))])
 .ret)
 .skip))
 (.seq (.seq (.reg [o 5 (.mv (k 0))])
 (.blk 0 (.loop (.seq (.seq (.reg [m 34 5, o 35 (.fadd 3 (t 2)), l 36 35, o 37 (.len 1 (t 36)), o 38 (b .lss (t 34) (t 37))])
 (.cond (t 38)
 .skip
 (.exit 0)))
 (.seq (.blk 1 (.seq (.dreg 0 [⟨o 41 (.fadd 3 (t 2)), 0, false, [], none⟩, ⟨l 42 41, 1, false, [], none⟩, ⟨m 43 5, 2, false, [], none⟩, ⟨o 44 (.iaS 4 (t 42) (t 43)), 3, false, [], none⟩, ⟨o 45 (.load true 4 (t 44)), 4, false, [], none⟩, ⟨o 46 (.fadd 3 (t 3)), 5, false, [], none⟩, ⟨l 47 46, 6, false, [], none⟩, ⟨m 48 5, 7, false, [], none⟩, ⟨o 49 (.iaS 4 (t 47) (t 48)), 8, false, [], none⟩, ⟨o 50 (.load true 4 (t 49)), 9, false, [], none⟩, ⟨o 51 (.callf 63 [(t 45), (t 50)]), 10, true, [], none⟩, ⟨o 52 (.un .not (t 51)), 11, false, [10], none⟩])
 (.cond (t 52)
 (.seq (.reg [o 4 (.mv (.c (.d (.b false))))])
 .ret)
 .skip)))
 (.reg [m 39 5, o 40 (b .add (t 39) (k 1)), m 5 40]))))))
 (.seq (.reg [o 4 (.mv (.c (.d (.b true))))])
 .ret)))), false⟩
def a64 : AFn := ⟨67, [.tmp 2],
 (.seq (.reg [o 1 (.box 29 (t 0)), o 2 (.mv (.c (.d (.b false))))])
 (.seq (.seq (.reg [o 4 (.fadd 0 (t 1)), l 5 4, o 6 (b .eql (t 5) (.c (.d (.i .u8 0))))])
 (.cond (t 6)
 (.seq (.reg [o 7 (.fadd 2 (t 1)), l 8 7, o 9 (b .eql (t 8) (.c (.d (.s [])))), m 10 9, og 11 (.fadd 3 (t 1)) 10 true, lg 12 11 10 true, og 13 (.len 1 (t 12)) 10 true, og 14 (b .eql (t 13) (k 0)) 10 true, o 15 (.pick (t 10) (t 14) (.c (.d (.b false)))), m 2 15])
 .ret)
 .skip))
 (.seq (.seq (.reg [o 16 (.fadd 0 (t 1)), l 17 16, o 18 (b .eql (t 17) (.c (.d (.i .u8 1))))])
 (.cond (t 18)
 (.seq (.reg [o 19 (.fadd 1 (t 1)), l 20 19, o 21 (b .eql (t 20) (k 0)), m 22 21, og 23 (.fadd 3 (t 1)) 22 true, lg 24 23 22 true, og 25 (.len 1 (t 24)) 22 true, og 26 (b .eql (t 25) (k 0)) 22 true, o 27 (.pick (t 22) (t 26) (.c (.d (.b false)))), m 28 27, og 29 (.fadd 2 (t 1)) 28 true, lg 30 29 28 true, og 31 (.len 0 (t 30)) 28 true, og 32 (b .leq (t 31) (k 100)) 28 true, o 33 (.pick (t 28) (t 32) (.c (.d (.b false)))), m 2 33])
 .ret)
 .skip))
 (.seq (.seq (.reg [o 34 (.fadd 0 (t 1)), l 35 34, o 36 (b .neq (t 35) (.c (.d (.i .u8 2)))), m 37 36, og 38 (.fadd 1 (t 1)) 37 false, lg 39 38 37 false, og 40 (b .neq (t 39) (k 0)) 37 false, o 41 (.pick (t 37) (.c (.d (.b true))) (t 40)), m 42 41, og 43 (.fadd 2 (t 1)) 42 false, lg 44 43 42 false, og 45 (b .neq (t 44) (.c (.d (.s [])))) 42 false, o 46 (.pick (t 42) (.c (.d (.b true))) (t 45)), m 47 46, og 48 (.fadd 3 (t 1)) 47 false, lg 49 48 47 false, og 50 (.len 1 (t 49)) 47 false, og 51 (b .gtr (t 50) (k 40)) 47 false, o 52 (.pick (t 47) (.c (.d (.b true))) (t 51))])
 (.cond (t 52)
 (.seq (.reg [o 2 (.mv (.c (.d (.b false))))])
 .ret)
 .skip))
 (.seq (.seq (.reg [o 3 (.mv (k 0))])
 (.blk 0 (.loop (.seq (.seq (.reg [m 53 3, o 54 (.fadd 3 (t 1)), l 55 54, o 56 (.len 1 (t 55)), o 57 (b .lss (t 53) (t 56))])
 (.cond (t 57)
 .skip
 (.exit 0)))
 (.seq (.blk 1 (.seq (.reg [o 60 (.fadd 3 (t 1)), l 61 60, m 62 3, o 63 (.iaS 4 (t 61) (t 62)), o 64 (.load true 4 (t 63)), o 65 (.callf 64 [(t 64)]), o 66 (.un .not (t 65))])
 (.cond (t 66)
 (.seq (.reg [o 2 (.mv (.c (.d (.b false))))])
 .ret)
 .skip)))
 (.reg [m 58 3, o 59 (b .add (t 58) (k 1)), m 3 59]))))))
 (.seq (.reg [o 2 (.mv (.c (.d (.b true))))])
 .ret)))))), false⟩
def a65 : AFn := ⟨25, [.tmp 2],
 (.seq (.reg [o 1 (.box 29 (t 0)), o 2 (.mv (k 0))])
 (.seq (.reg [o 3 (.mv (k 0))])
 (.seq (.seq (.reg [o 4 (.mv (k 0))])
 (.blk 0 (.loop (.seq (.seq (.reg [m 6 4, o 7 (.fadd 3 (t 1)), l 8 7, o 9 (.len 1 (t 8)), o 10 (b .lss (t 6) (t 9))])
 (.cond (t 10)
 .skip
 (.exit 0)))
 (.seq (.blk 1 (.seq (.reg [o 13 (.fadd 3 (t 1)), l 14 13, m 15 4, o 16 (.iaS 4 (t 14) (t 15)), o 17 (.load true 4 (t 16)), o 18 (.callf 65 [(t 17)]), m 5 18])
 (.seq (.reg [m 19 5, m 20 3, o 21 (b .gtr (t 19) (t 20))])
 (.cond (t 21)
 (.reg [m 22 5, m 3 22])
 .skip))))
 (.reg [m 11 4, o 12 (b .add (t 11) (k 1)), m 4 12]))))))
 (.seq (.reg [m 23 3, o 24 (b .add (t 23) (k 1)), m 2 24])
 .ret)))), false⟩
def a66 : AFn := ⟨21, [.tmp 2],
 (.seq (.reg [o 1 (.box 29 (t 0)), o 2 (.mv (k 0))])
 (.seq (.reg [o 3 (.mv (k 1))])
 (.seq (.seq (.reg [o 4 (.mv (k 0))])
 (.blk 0 (.loop (.seq (.seq (.reg [m 5 4, o 6 (.fadd 3 (t 1)), l 7 6, o 8 (.len 1 (t 7)), o 9 (b .lss (t 5) (t 8))])
 (.cond (t 9)
 .skip
 (.exit 0)))
 (.seq (.blk 1 (.reg [m 12 3, o 13 (.fadd 3 (t 1)), l 14 13, m 15 4, o 16 (.iaS 4 (t 14) (t 15)), o 17 (.load true 4 (t 16)), o 18 (.callf 66 [(t 17)]), o 19 (b .add (t 12) (t 18)), m 3 19]))
 (.reg [m 10 4, o 11 (b .add (t 10) (k 1)), m 4 11]))))))
 (.seq (.reg [m 20 3, m 2 20])
 .ret)))), false⟩
def a67 : AFn := ⟨14, [.tmp 2],
 (.seq (.reg [o 2 (.mv (.c (.d (.i .u64 0))))])
 (.seq (.seq (.reg [m 3 0, o 4 (b .geq (t 3) (k 0))])
 (.cond (t 4)
 (.seq (.reg [m 5 0, o 6 (.cvi .u64 (t 5)), o 7 (b .mul (.c (.d (.i .u64 2))) (t 6)), m 2 7])
 .ret)
 .skip))
 (.seq (.reg [m 8 0, o 9 (b .add (t 8) (k 1)), o 10 (.un .neg (t 9)), o 11 (.cvi .u64 (t 10)), o 12 (b .mul (.c (.d (.i .u64 2))) (t 11)), o 13 (b .add (t 12) (.c (.d (.i .u64 1)))), m 2 13])
 .ret))), false⟩
def a68 : AFn := ⟨18, [.tmp 2],
 (.seq (.reg [o 2 (.mv (.c (.d (.i .u32 0))))])
 (.seq (.reg [o 3 (.mv (.c (.d (.i .u32 0))))])
 (.seq (.seq (.reg [o 4 (.mv (k 0))])
 (.blk 0 (.loop (.seq (.seq (.reg [m 5 4, m 6 0, o 7 (.len 1 (t 6)), o 8 (b .lss (t 5) (t 7))])
 (.cond (t 8)
 .skip
 (.exit 0)))
 (.seq (.blk 1 (.reg [m 11 3, m 12 0, m 13 4, o 14 (.iaS 1 (t 12) (t 13)), l 15 14, o 16 (.callf 84 [(t 11), (t 15)]), m 3 16]))
 (.reg [m 9 4, o 10 (b .add (t 9) (k 1)), m 4 10]))))))
 (.seq (.reg [m 17 3, m 2 17])
 .ret)))), false⟩
def a69 : AFn := ⟨76, [.tmp 2],
 (.seq (.reg [o 1 (.box 32 (t 0)), o 2 (.mv (.c (.d (.b false))))])
 (.seq (.reg [o 4 (.fadd 0 (t 1)), l 5 4, o 6 (.callf 70 [(t 5)]), m 3 6])
 (.seq (.dreg 0 [⟨m 7 3, 0, false, [], none⟩, ⟨o 8 (b .neq (t 7) (.c (.d (.i .u8 0)))), 1, false, [], none⟩, ⟨m 9 8, 2, false, [], none⟩, ⟨og 13 (.fadd 7 (t 1)) 9 true, 6, false, [], none⟩, ⟨lg 14 13 9 true, 7, false, [], none⟩, ⟨og 15 (.callf 86 [(t 14)]) 9 true, 8, true, [], none⟩, ⟨mg 10 3 9 true, 3, false, [], none⟩, ⟨og 11 (b .and (t 10) (.c (.d (.i .u8 1)))) 9 true, 4, false, [], none⟩, ⟨og 12 (b .neq (t 11) (.c (.d (.i .u8 0)))) 9 true, 5, false, [], none⟩, ⟨og 16 (.fadd 7 (t 1)) 9 true, 9, false, [], none⟩, ⟨lg 17 16 9 true, 10, false, [], none⟩, ⟨og 18 (.len 1 (t 17)) 9 true, 11, false, [], none⟩, ⟨og 19 (b .eql (t 18) (k 0)) 9 true, 12, false, [], none⟩, ⟨og 20 (.callf 85 [(t 12), (t 15), (t 19)]) 9 true, 13, true, [], none⟩, ⟨o 21 (.pick (t 9) (t 20) (.c (.d (.b false)))), 14, false, [13, 8], none⟩, ⟨m 22 21, 15, false, [13, 8], none⟩, ⟨mg 23 3 22 true, 16, false, [13, 8], none⟩, ⟨og 24 (b .and (t 23) (.c (.d (.i .u8 2)))) 22 true, 17, false, [13, 8], none⟩, ⟨og 25 (b .neq (t 24) (.c (.d (.i .u8 0)))) 22 true, 18, false, [13, 8], none⟩, ⟨og 26 (.fadd 8 (t 1)) 22 true, 19, false, [13, 8], none⟩, ⟨lg 27 26 22 true, 20, false, [13, 8], none⟩, ⟨og 28 (b .geq (t 27) (k 0)) 22 true, 21, false, [13, 8], none⟩, ⟨mg 29 28 22 true, 22, false, [13, 8], none⟩, ⟨og 30 (.fadd 8 (t 1)) 29 true, 23, false, [13, 8], none⟩, ⟨lg 31 30 29 true, 24, false, [13, 8], none⟩, ⟨og 32 (b .leq (t 31) (k 400)) 29 true, 25, false, [13, 8], none⟩, ⟨og 33 (.pick (t 29) (t 32) (.c (.d (.b false)))) 22 true, 26, false, [13, 8], none⟩, ⟨og 34 (.fadd 8 (t 1)) 22 true, 27, false, [13, 8], none⟩, ⟨lg 35 34 22 true, 28, false, [13, 8], none⟩, ⟨og 36 (b .eql (t 35) (k 0)) 22 true, 29, false, [13, 8], none⟩, ⟨og 37 (.callf 85 [(t 25), (t 33), (t 36)]) 22 true, 30, true, [], none⟩, ⟨o 38 (.pick (t 22) (t 37) (.c (.d (.b false)))), 31, false, [30, 13, 8], none⟩, ⟨m 39 38, 32, false, [30, 13, 8], none⟩, ⟨og 43 (.fadd 1 (t 1)) 39 true, 36, false, [30, 13, 8], none⟩, ⟨lg 44 43 39 true, 37, false, [30, 13, 8], none⟩, ⟨og 45 (.callf 87 [(t 44)]) 39 true, 38, true, [], none⟩, ⟨mg 40 3 39 true, 33, false, [30, 13, 8], none⟩, ⟨og 41 (b .and (t 40) (.c (.d (.i .u8 4)))) 39 true, 34, false, [30, 13, 8], none⟩, ⟨og 42 (b .neq (t 41) (.c (.d (.i .u8 0)))) 39 true, 35, false, [30, 13, 8], none⟩, ⟨og 46 (.fadd 1 (t 1)) 39 true, 39, false, [30, 13, 8], none⟩, ⟨lg 47 46 39 true, 40, false, [30, 13, 8], none⟩, ⟨og 48 (b .eql (t 47) (.c (.d (.s [])))) 39 true, 41, false, [30, 13, 8], none⟩, ⟨og 49 (.callf 85 [(t 42), (t 45), (t 48)]) 39 true, 42, true, [], none⟩, ⟨o 50 (.pick (t 39) (t 49) (.c (.d (.b false)))), 43, false, [42, 38, 30, 13, 8], none⟩, ⟨m 51 50, 44, false, [42, 38, 30, 13, 8], none⟩, ⟨mg 52 3 51 true, 45, false, [42, 38, 30, 13, 8], none⟩, ⟨og 53 (b .and (t 52) (.c (.d (.i .u8 8)))) 51 true, 46, false, [42, 38, 30, 13, 8], none⟩, ⟨og 54 (b .neq (t 53) (.c (.d (.i .u8 0)))) 51 true, 47, false, [42, 38, 30, 13, 8], none⟩, ⟨og 55 (.fadd 2 (t 1)) 51 true, 48, false, [42, 38, 30, 13, 8], none⟩, ⟨lg 56 55 51 true, 49, false, [42, 38, 30, 13, 8], none⟩, ⟨og 57 (b .geq (t 56) (k 1)) 51 true, 50, false, [42, 38, 30, 13, 8], none⟩, ⟨og 58 (.fadd 2 (t 1)) 51 true, 51, false, [42, 38, 30, 13, 8], none⟩, ⟨lg 59 58 51 true, 52, false, [42, 38, 30, 13, 8], none⟩, ⟨og 60 (b .eql (t 59) (k 0)) 51 true, 53, false, [42, 38, 30, 13, 8], none⟩, ⟨og 61 (.callf 85 [(t 54), (t 57), (t 60)]) 51 true, 54, true, [], none⟩, ⟨o 62 (.pick (t 51) (t 61) (.c (.d (.b false)))), 55, false, [54, 42, 38, 30, 13, 8], none⟩, ⟨m 63 62, 56, false, [54, 42, 38, 30, 13, 8], none⟩, ⟨og 67 (.fadd 3 (t 1)) 63 true, 60, false, [54, 42, 38, 30, 13, 8], none⟩, ⟨og 68 (.load true 4 (t 67)) 63 true, 61, false, [54, 42, 38, 30, 13, 8], none⟩, ⟨og 69 (.callf 88 [(t 68)]) 63 true, 62, true, [], none⟩, ⟨og 70 (.fadd 3 (t 1)) 63 true, 63, false, [54, 42, 38, 30, 13, 8], none⟩, ⟨og 71 (.load true 4 (t 70)) 63 true, 64, false, [54, 42, 38, 30, 13, 8], none⟩, ⟨og 72 (.build z4 []) 63 true, 65, false, [54, 42, 38, 30, 13, 8], none⟩, ⟨og 73 (.callf 89 [(t 71), (t 72)]) 63 true, 66, true, [], none⟩, ⟨mg 64 3 63 true, 57, false, [54, 42, 38, 30, 13, 8], none⟩, ⟨og 65 (b .and (t 64) (.c (.d (.i .u8 16)))) 63 true, 58, false, [54, 42, 38, 30, 13, 8], none⟩, ⟨og 66 (b .neq (t 65) (.c (.d (.i .u8 0)))) 63 true, 59, false, [54, 42, 38, 30, 13, 8], none⟩, ⟨og 74 (.callf 85 [(t 66), (t 69), (t 73)]) 63 true, 67, true, [], none⟩, ⟨o 75 (.pick (t 63) (t 74) (.c (.d (.b false)))), 68, false, [67, 66, 62, 54, 42, 38, 30, 13, 8], none⟩, ⟨m 2 75, 69, false, [67, 66, 62, 54, 42, 38, 30, 13, 8], none⟩])
 .ret))), false⟩
def a70 : AFn := ⟨9, [.tmp 2],
 (.seq (.reg [o 2 (.mv (.c (.d (.i .u8 0))))])
 (.seq (.seq (.reg [m 3 0, o 4 (.cvi .i64 (t 3)), o 5 (b .geq (t 4) (k 6))])
 (.cond (t 5)
 (.seq (.reg [o 2 (.mv (.c (.d (.i .u8 0))))])
 .ret)
 .skip))
 (.seq (.reg [m 6 0, o 7 (.iaA 6 1 (.c (.glob 0 0)) (t 6)), l 8 7, m 2 8])
 .ret))), false⟩
def a71 : AFn := ⟨10, [.tmp 4],
 (.seq (.reg [o 4 (.mv (.c .nilsl))])
 (.seq (.reg [m 5 0, o 6 (.clone 56 5 1 1 false (t 5)), m 7 1, o 8 (.callf 91 [(t 7)]), o 9 (.callf 90 [(t 6), (t 8)]), m 4 9])
 .ret)), false⟩
def a72 : AFn := ⟨11, [.tmp 4],
 (.seq (.reg [o 4 (.mv (.c .nilsl))])
 (.seq (.reg [m 5 0, m 6 1, o 7 (.len 0 (t 6)), o 8 (.callf 71 [(t 5), (t 7)]), m 9 1, o 10 (.app 5 1 1 false (t 8) (t 9)), m 4 10])
 .ret)), false⟩
def a73 : AFn := ⟨44, [.tmp 4],
 (.seq (.reg [o 3 (.box 29 (t 1)), o 4 (.mv (.c .nilsl))])
 (.seq (.reg [m 8 0, o 9 (.fadd 0 (t 3)), l 10 9, o 11 (.cvi .i64 (t 10)), o 12 (.callf 71 [(t 8), (t 11)]), m 5 12])
 (.seq (.seq (.reg [o 13 (.fadd 0 (t 3)), l 14 13])
 (.blk 0 (.seq (.reg [o 16 (b .eql (t 14) (.c (.d (.i .u8 0)))), m 15 16])
 (.cond (t 15)
 (.seq (.reg [m 17 5, o 18 (.fadd 1 (t 3)), l 19 18, o 20 (.callf 71 [(t 17), (t 19)]), m 4 20])
 .ret)
 (.seq (.reg [o 22 (b .eql (t 14) (.c (.d (.i .u8 1)))), m 21 22])
 (.cond (t 21)
 (.seq (.reg [m 23 5, o 24 (.fadd 2 (t 3)), l 25 24, o 26 (.callf 72 [(t 23), (t 25)]), m 4 26])
 .ret)
 .skip))))))
 (.seq (.reg [m 27 5, o 28 (.fadd 3 (t 3)), l 29 28, o 30 (.len 1 (t 29)), o 31 (.callf 71 [(t 27), (t 30)]), m 5 31])
 (.seq (.seq (.reg [o 32 (.fadd 3 (t 3)), l 33 32, o 34 (.len 1 (t 33)), o 35 (.mv (k 0))])
 (.blk 1 (.loop (.seq (.reg [o 36 (b .lss (t 35) (t 34))])
 (.seq (.cond (t 36)
 .skip
 (.exit 1))
 (.seq (.blk 2 (.seq (.reg [o 37 (.iaS 4 (t 33) (t 35)), o 38 (.load true 4 (t 37)), o 7 (.alloc 29 z4), u (.store 4 (t 7) (t 38))])
 (.reg [m 39 5, o 40 (.load true 4 (t 7)), o 41 (.callf 73 [(t 39), (t 40)]), m 5 41])))
 (.reg [o 42 (b .add (t 35) (k 1)), m 35 42])))))))
 (.seq (.reg [m 43 5, m 4 43])
 .ret)))))), false⟩
def a74 : AFn := ⟨60, [.tmp 4],
 (.seq (.reg [o 4 (.mv (.c .nilsl))])
 (.seq (.reg [m 10 0, m 11 1, o 12 (.len 1 (t 11)), o 13 (.callf 71 [(t 10), (t 12)]), m 5 13])
 (.seq (.seq (.reg [m 14 1, o 15 (.len 1 (t 14)), o 16 (.mv (k 0))])
 (.blk 0 (.loop (.seq (.reg [o 17 (b .lss (t 16) (t 15))])
 (.seq (.cond (t 17)
 .skip
 (.exit 0))
 (.seq (.blk 1 (.seq (.reg [o 18 (.iaS 6 (t 14) (t 16)), o 19 (.load true 6 (t 18)), o 7 (.alloc 60 z5), u (.store 6 (t 7) (t 19))])
 (.seq (.dreg 0 [⟨m 20 5, 0, false, [], none⟩, ⟨o 21 (.fadd 0 (t 7)), 1, false, [], none⟩, ⟨l 22 21, 2, false, [], none⟩, ⟨o 23 (.callf 72 [(t 20), (t 22)]), 3, true, [], none⟩, ⟨o 24 (.fadd 1 (t 7)), 4, false, [], none⟩, ⟨l 25 24, 5, false, [], none⟩, ⟨o 26 (.cvi .i64 (t 25)), 6, false, [], none⟩, ⟨o 27 (.callf 71 [(t 23), (t 26)]), 7, true, [], none⟩, ⟨m 5 27, 8, false, [7, 3], none⟩])
 (.seq (.reg [m 28 5, o 29 (.fadd 2 (t 7)), l 30 29, o 31 (.len 1 (t 30)), o 32 (.callf 71 [(t 28), (t 31)]), m 5 32])
 (.seq (.seq (.reg [o 33 (.fadd 2 (t 7)), l 34 33, o 35 (.len 1 (t 34)), o 36 (.mv (k 0))])
 (.blk 2 (.loop (.seq (.reg [o 37 (b .lss (t 36) (t 35))])
 (.seq (.cond (t 37)
 .skip
 (.exit 2))
 (.seq (.blk 3 (.seq (.reg [o 38 (.iaS 1 (t 34) (t 36)), l 39 38, m 9 39])
 (.reg [m 40 5, m 41 9, o 42 (.callf 72 [(t 40), (t 41)]), m 5 42])))
 (.reg [o 43 (b .add (t 36) (k 1)), m 36 43])))))))
 (.seq (.reg [m 44 5, o 45 (.fadd 5 (t 7)), l 46 45, o 47 (.callf 71 [(t 44), (t 46)]), m 5 47])
 (.seq (.reg [o 48 (.fadd 1 (t 7)), l 49 48, o 50 (b .eql (t 49) (.c (.d (.i .u8 1))))])
 (.cond (t 50)
 (.dreg 0 [⟨m 51 5, 0, false, [], none⟩, ⟨o 52 (.fadd 3 (t 7)), 1, false, [], none⟩, ⟨l 53 52, 2, false, [], none⟩, ⟨o 54 (.callf 72 [(t 51), (t 53)]), 3, true, [], none⟩, ⟨o 55 (.fadd 4 (t 7)), 4, false, [], none⟩, ⟨l 56 55, 5, false, [], none⟩, ⟨o 57 (.callf 71 [(t 54), (t 56)]), 6, true, [], none⟩, ⟨m 5 57, 7, false, [6, 3], none⟩])
 .skip))))))))
 (.reg [o 58 (b .add (t 16) (k 1)), m 16 58])))))))
 (.seq (.reg [m 59 5, m 4 59])
 .ret)))), false⟩
def a80 : AFn := ⟨31, [],
 (.seq (.reg [o 4 (.mv (k 0))])
 (.blk 0 (.loop (.seq (.seq (.reg [m 6 4, l 7 1, o 8 (.len 1 (t 7)), o 9 (b .lss (t 6) (t 8))])
 (.cond (t 9)
 .skip
 (.exit 0)))
 (.seq (.blk 1 (.seq (.dreg 0 [⟨l 13 2, 0, false, [], none⟩, ⟨l 14 1, 1, false, [], none⟩, ⟨m 15 4, 2, false, [], none⟩, ⟨o 16 (.slSl 1 (t 14) (some (t 15)) none none), 3, false, [], none⟩, ⟨o 17 (.len 1 (t 16)), 4, false, [], none⟩, ⟨o 18 (.mn [(t 13), (t 17)]), 5, false, [], none⟩, ⟨m 5 18, 6, false, [], none⟩])
 (.seq (.reg [m 19 0, l 20 1, m 21 4, m 22 4, m 23 5, o 24 (b .add (t 22) (t 23)), m 25 4, m 26 5, o 27 (b .add (t 25) (t 26)), o 28 (.slSl 1 (t 20) (some (t 21)) (some (t 24)) (some (t 27))), o 29 (.callv (t 19) [(t 28)]), o 30 (.un .not (t 29))])
 (.cond (t 30)
 .ret
 .skip))))
 (.reg [m 10 4, l 11 2, o 12 (b .add (t 10) (t 11)), m 4 12])))))), false⟩
def a81 : AFn := ⟨19, [.tmp 4],
 (.seq (.reg [o 4 (.mv (k 0))])
 (.seq (.seq (.reg [m 6 0, o 7 (.len 1 (t 6)), o 8 (.mv (k 0))])
 (.blk 0 (.loop (.seq (.reg [o 9 (b .lss (t 8) (t 7))])
 (.seq (.cond (t 9)
 .skip
 (.exit 0))
 (.seq (.blk 1 (.seq (.reg [m 10 8, m 5 10])
 (.seq (.reg [m 11 1, m 12 0, m 13 5, o 14 (.iaS 1 (t 12) (t 13)), l 15 14, o 16 (.callv (t 11) [(t 15)])])
 (.cond (t 16)
 (.seq (.reg [m 17 5, m 4 17])
 .ret)
 .skip))))
 (.reg [o 18 (b .add (t 8) (k 1)), m 8 18])))))))
 (.seq (.reg [o 4 (.mv (k (-1)))])
 .ret))), false⟩
def a84 : AFn := ⟨31, [.tmp 4],
 (.seq (.reg [o 4 (.mv (.c (.d (.i .u32 0))))])
 (.seq (.reg [m 9 0, o 10 (b .sub (.c (.d (.i .u32 4294967295))) (t 9)), m 5 10])
 (.seq (.reg [m 11 1, o 12 (.cvi .u32 (t 11)), m 6 12])
 (.seq (.seq (.reg [o 7 (.mv (k 0))])
 (.blk 0 (.loop (.seq (.seq (.reg [m 13 7, o 14 (b .lss (t 13) (k 8))])
 (.cond (t 14)
 .skip
 (.exit 0)))
 (.seq (.blk 1 (.seq (.reg [m 17 5, m 18 6, o 19 (b .add (t 17) (t 18)), o 20 (b .rem (t 19) (.c (.d (.i .u32 2)))), m 8 20])
 (.seq (.reg [m 21 5, o 22 (b .quo (t 21) (.c (.d (.i .u32 2)))), m 5 22])
 (.seq (.reg [m 23 6, o 24 (b .quo (t 23) (.c (.d (.i .u32 2)))), m 6 24])
 (.seq (.reg [m 25 8, o 26 (b .eql (t 25) (.c (.d (.i .u32 1))))])
 (.cond (t 26)
 (.reg [m 27 5, o 28 (b .xor (t 27) (.c (.d (.i .u32 3988292384)))), m 5 28])
 .skip))))))
 (.reg [m 15 7, o 16 (b .add (t 15) (k 1)), m 7 16]))))))
 (.seq (.reg [m 29 5, o 30 (b .sub (.c (.d (.i .u32 4294967295))) (t 29)), m 4 30])
 .ret))))), false⟩
def a85 : AFn := ⟨10, [.tmp 6],
 (.seq (.reg [o 6 (.mv (.c (.d (.b false))))])
 (.seq (.seq (.reg [m 7 0])
 (.cond (t 7)
 (.seq (.reg [m 8 1, m 6 8])
 .ret)
 .skip))
 (.seq (.reg [m 9 2, m 6 9])
 .ret))), false⟩
def a86 : AFn := ⟨11, [.tmp 2],
 (.seq (.reg [o 2 (.mv (.c (.d (.b false))))])
 (.seq (.reg [m 3 0, o 4 (.len 1 (t 3)), o 5 (b .leq (t 4) (k 40)), m 6 5, mg 7 0 6 true, og 8 (.callf 102 [(t 7), (.c (.d (.fn (.func 103) [] [])))]) 6 true, og 9 (.un .not (t 8)) 6 true, o 10 (.pick (t 6) (t 9) (.c (.d (.b false)))), m 2 10])
 .ret)), false⟩
def a87 : AFn := ⟨18, [.tmp 2],
 (.seq (.reg [o 2 (.mv (.c (.d (.b false))))])
 (.seq (.reg [o 3 (.mv (.c (.d (.fn (.func 105) [] []))))])
 (.seq (.reg [m 4 0, o 5 (.len 0 (t 4)), o 6 (b .geq (t 5) (k 1)), m 7 6, mg 8 0 7 true, og 9 (.len 0 (t 8)) 7 true, og 10 (b .leq (t 9) (k 400)) 7 true, o 11 (.pick (t 7) (t 10) (.c (.d (.b false)))), m 12 11, mg 13 0 12 true, mg 14 3 12 true, og 15 (.callf 106 [(t 13), (t 14)]) 12 true, og 16 (.un .not (t 15)) 12 true, o 17 (.pick (t 12) (t 16) (.c (.d (.b false)))), m 2 17])
 .ret))), false⟩
def a88 : AFn := ⟨7, [.tmp 2],
 (.seq (.reg [o 1 (.box 29 (t 0)), o 2 (.mv (.c (.d (.b false))))])
 (.seq (.reg [o 3 (.build [(.d (.i .i64 0))] [(0, 1, (k 200))]), o 4 (.box 139 (t 3)), o 5 (.load true 4 (t 1)), o 6 (.callf 107 [(t 4), (t 5), (k 6)]), m 2 6])
 .ret)), false⟩
def a89 : AFn := ⟨31, [.tmp 4],
 (.seq (.reg [o 2 (.box 29 (t 0)), o 3 (.box 29 (t 1)), o 4 (.mv (.c (.d (.b false))))])
 (.seq (.reg [o 5 (.fadd 0 (t 2)), l 6 5, o 7 (.fadd 0 (t 3)), l 8 7, o 9 (b .eql (t 6) (t 8)), m 10 9, og 11 (.fadd 1 (t 2)) 10 true, lg 12 11 10 true, og 13 (.fadd 1 (t 3)) 10 true, lg 14 13 10 true, og 15 (b .eql (t 12) (t 14)) 10 true, o 16 (.pick (t 10) (t 15) (.c (.d (.b false)))), m 17 16, og 18 (.fadd 2 (t 2)) 17 true, lg 19 18 17 true, og 20 (.fadd 2 (t 3)) 17 true, lg 21 20 17 true, og 22 (b .eql (t 19) (t 21)) 17 true, o 23 (.pick (t 17) (t 22) (.c (.d (.b false)))), m 24 23, og 25 (.fadd 3 (t 2)) 24 true, lg 26 25 24 true, og 27 (.fadd 3 (t 3)) 24 true, lg 28 27 24 true, og 29 (.callf 108 [(t 26), (t 28), (.c (.d (.fn (.func 89) [] [])))]) 24 true, o 30 (.pick (t 24) (t 29) (.c (.d (.b false)))), m 4 30])
 .ret)), false⟩
def a90 : AFn := ⟨13, [.tmp 4],
 (.seq (.reg [o 2 (.box 54 (t 0)), o 4 (.mv (.c .nilsl))])
 (.seq (.seq (.reg [m 6 1])
 (.blk 0 (.rfun (t 6) [7] (.reg [m 5 7]) (.blk 1 (.reg [l 8 2, m 9 5, o 10 (.bsl 5 1 1 [(.d (.i .u8 0))] [(0, 1, (t 9))]), o 11 (.app 5 1 1 false (t 8) (t 10)), u (.store 1 (t 2) (t 11))])))))
 (.seq (.reg [l 12 2, m 4 12])
 .ret))), true⟩
def a91 : AFn := ⟨4, [.tmp 2],
 (.seq (.reg [o 1 (.box 2 (t 0)), o 2 (.mv (.c (.d .nilf)))])
 (.seq (.reg [o 3 (.mkfn (.func 109) [] [(t 1)]), m 2 3])
 .ret)), false⟩
def a102 : AFn := ⟨9, [.tmp 4],
 (.seq (.reg [o 4 (.mv (.c (.d (.b false))))])
 (.seq (.reg [m 5 0, m 6 1, o 7 (.callf 118 [(t 5), (t 6)]), o 8 (b .geq (t 7) (k 0)), m 4 8])
 .ret)), false⟩
def a103 : AFn := ⟨6, [.tmp 2],
 (.seq (.reg [o 1 (.box 60 (t 0)), o 2 (.mv (.c (.d (.b false))))])
 (.seq (.reg [o 3 (.load true 6 (t 1)), o 4 (.callf 104 [(t 3)]), o 5 (.un .not (t 4)), m 2 5])
 .ret)), false⟩
def a104 : AFn := ⟨44, [.tmp 2],
 (.seq (.reg [o 1 (.box 60 (t 0)), o 2 (.mv (.c (.d (.b false))))])
 (.seq (.seq (.reg [o 3 (.fadd 0 (t 1)), l 4 3, o 5 (.callf 115 [(t 4)]), o 6 (.un .not (t 5)), m 7 6, og 8 (.fadd 2 (t 1)) 7 false, lg 9 8 7 false, og 10 (.len 1 (t 9)) 7 false, og 11 (b .gtr (t 10) (k 20)) 7 false, o 12 (.pick (t 7) (.c (.d (.b true))) (t 11)), m 13 12, og 14 (.fadd 5 (t 1)) 13 false, lg 15 14 13 false, og 16 (.callf 119 [(t 15), (k 400)]) 13 false, og 17 (.un .not (t 16)) 13 false, o 18 (.pick (t 13) (.c (.d (.b true))) (t 17))])
 (.cond (t 18)
 (.seq (.reg [o 2 (.mv (.c (.d (.b false))))])
 .ret)
 .skip))
 (.seq (.seq (.reg [o 19 (.fadd 2 (t 1)), l 20 19, o 21 (.callf 120 [(t 20), (.c (.d (.fn (.func 121) [] [])))])])
 (.cond (t 21)
 (.seq (.reg [o 2 (.mv (.c (.d (.b false))))])
 .ret)
 .skip))
 (.seq (.seq (.reg [o 22 (.fadd 1 (t 1)), l 23 22])
 (.blk 0 (.seq (.reg [o 25 (b .eql (t 23) (.c (.d (.i .u8 0)))), m 24 25])
 (.cond (t 24)
 (.seq (.reg [o 26 (.fadd 3 (t 1)), l 27 26, o 28 (b .eql (t 27) (.c (.d (.s [])))), m 29 28, og 30 (.fadd 4 (t 1)) 29 true, lg 31 30 29 true, og 32 (b .eql (t 31) (k 0)) 29 true, o 33 (.pick (t 29) (t 32) (.c (.d (.b false)))), m 2 33])
 .ret)
 (.seq (.reg [o 35 (b .eql (t 23) (.c (.d (.i .u8 1)))), m 34 35])
 (.cond (t 34)
 (.seq (.reg [o 36 (.fadd 3 (t 1)), l 37 36, o 38 (.callf 115 [(t 37)]), m 39 38, og 40 (.fadd 4 (t 1)) 39 true, lg 41 40 39 true, og 42 (.callf 119 [(t 41), (k 40)]) 39 true, o 43 (.pick (t 39) (t 42) (.c (.d (.b false)))), m 2 43])
 .ret)
 .skip))))))
 (.seq (.reg [o 2 (.mv (.c (.d (.b false))))])
 .ret))))), false⟩
def a105 : AFn := ⟨9, [.tmp 2],
 (.seq (.reg [o 2 (.mv (.c (.d (.b false))))])
 (.seq (.reg [m 3 0, o 4 (b .lss (t 3) (.c (.d (.i .i32 33)))), m 5 4, mg 6 0 5 false, og 7 (b .gtr (t 6) (.c (.d (.i .i32 126)))) 5 false, o 8 (.pick (t 5) (.c (.d (.b true))) (t 7)), m 2 8])
 .ret)), false⟩
def a106 : AFn := ⟨9, [.tmp 4],
 (.seq (.reg [o 4 (.mv (.c (.d (.b false))))])
 (.seq (.reg [m 5 0, m 6 1, o 7 (.callf 122 [(t 5), (t 6)]), o 8 (b .geq (t 7) (k 0)), m 4 8])
 .ret)), false⟩
def a107 : AFn := ⟨33, [.tmp 6],
 (.seq (.reg [o 3 (.box 137 (t 0)), o 4 (.box 29 (t 1)), o 5 (.box 3 (t 2)), o 6 (.mv (.c (.d (.b false))))])
 (.seq (.seq (.reg [l 7 3, o 8 (.nilchk (t 7)), o 9 (.fadd 0 (t 8)), l 10 9, o 11 (b .sub (t 10) (k 1)), o 12 (.nilchk (t 7)), o 13 (.fadd 0 (t 12)), u (.store 1 (t 13) (t 11))])
 (.seq (.reg [l 14 3, o 15 (.nilchk (t 14)), o 16 (.fadd 0 (t 15)), l 17 16, o 18 (b .lss (t 17) (k 0)), m 19 18, lg 20 5 19 false, og 21 (b .eql (t 20) (k 0)) 19 false, o 22 (.pick (t 19) (.c (.d (.b true))) (t 21)), m 23 22, og 24 (.load true 4 (t 4)) 23 false, og 25 (.callf 123 [(t 24)]) 23 false, og 26 (.un .not (t 25)) 23 false, o 27 (.pick (t 23) (.c (.d (.b true))) (t 26))])
 (.cond (t 27)
 (.seq (.reg [o 6 (.mv (.c (.d (.b false))))])
 .ret)
 .skip)))
 (.seq (.reg [o 28 (.fadd 3 (t 4)), l 29 28, o 30 (.mkfn (.func 125) [] [(t 3), (t 5)]), o 31 (.callf 124 [(t 29), (t 30)]), o 32 (.un .not (t 31)), m 6 32])
 .ret))), false⟩
def a108 : AFn := ⟨32, [.tmp 6],
 (.seq (.reg [o 6 (.mv (.c (.d (.b false))))])
 (.seq (.seq (.reg [m 10 0, o 11 (.len 1 (t 10)), m 12 1, o 13 (.len 1 (t 12)), o 14 (b .neq (t 11) (t 13))])
 (.cond (t 14)
 (.seq (.reg [o 6 (.mv (.c (.d (.b false))))])
 .ret)
 .skip))
 (.seq (.seq (.reg [m 15 0, o 16 (.len 1 (t 15)), o 17 (.mv (k 0))])
 (.blk 0 (.loop (.seq (.reg [o 18 (b .lss (t 17) (t 16))])
 (.seq (.cond (t 18)
 .skip
 (.exit 0))
 (.seq (.blk 1 (.seq (.reg [m 19 17, o 20 (.iaS 4 (t 15) (t 17)), o 21 (.load true 4 (t 20)), o 8 (.alloc 29 z4), m 7 19, u (.store 4 (t 8) (t 21))])
 (.seq (.reg [m 22 1, m 23 7, o 24 (.iaS 4 (t 22) (t 23)), o 25 (.load true 4 (t 24)), o 9 (.alloc 29 z4), u (.store 4 (t 9) (t 25))])
 (.seq (.reg [m 26 2, o 27 (.load true 4 (t 8)), o 28 (.load true 4 (t 9)), o 29 (.callv (t 26) [(t 27), (t 28)]), o 30 (.un .not (t 29))])
 (.cond (t 30)
 (.seq (.reg [o 6 (.mv (.c (.d (.b false))))])
 .ret)
 .skip)))))
 (.reg [o 31 (b .add (t 17) (k 1)), m 17 31])))))))
 (.seq (.reg [o 6 (.mv (.c (.d (.b true))))])
 .ret)))), false⟩
def a109 : AFn := ⟨20, [],
 (.seq (.reg [l 4 1, o 5 (.callf 110 [(t 4)]), m 3 5])
 (.seq (.blk 0 (.loop (.seq (.seq (.reg [m 6 3, o 7 (b .geq (t 6) (.c (.d (.i .u64 128))))])
 (.cond (t 7)
 .skip
 (.exit 0)))
 (.seq (.blk 1 (.seq (.reg [m 10 0, m 11 3, o 12 (.cvi .u8 (t 11)), o 13 (b .or (t 12) (.c (.d (.i .u8 128)))), o 14 (.callv (t 10) [(t 13)]), o 15 (.un .not (t 14))])
 (.cond (t 15)
 .ret
 .skip)))
 (.reg [m 8 3, o 9 (b .shr (t 8) (.c (.d (.i .u64 7)))), m 3 9])))))
 (.reg [m 16 0, m 17 3, o 18 (.cvi .u8 (t 17)), o 19 (.callv (t 16) [(t 18)])]))), false⟩
def a110 : AFn := ⟨10, [.tmp 2],
 (.seq (.reg [o 2 (.mv (.c (.d (.i .u64 0))))])
 (.seq (.reg [m 3 0, o 4 (.cvi .u64 (t 3)), o 5 (b .shl (t 4) (.c (.d (.i .u64 1)))), m 6 0, o 7 (b .shr (t 6) (.c (.d (.i .u64 63)))), o 8 (.cvi .u64 (t 7)), o 9 (b .xor (t 5) (t 8)), m 2 9])
 .ret)), false⟩
def a115 : AFn := ⟨16, [.tmp 2],
 (.seq (.reg [o 2 (.mv (.c (.d (.b false))))])
 (.seq (.reg [m 3 0, o 4 (.len 0 (t 3)), o 5 (b .geq (t 4) (k 1)), m 6 5, mg 7 0 6 true, og 8 (.len 0 (t 7)) 6 true, og 9 (b .leq (t 8) (k 20)) 6 true, o 10 (.pick (t 6) (t 9) (.c (.d (.b false)))), m 11 10, mg 12 0 11 true, og 13 (.callf 127 [(t 12), (.c (.d (.s [97, 98, 99, 100, 101, 102, 103, 104, 105, 106, 107, 108, 109, 110, 111, 112, 113, 114, 115, 116, 117, 118, 119, 120, 121, 122, 48, 49, 50, 51, 52, 53, 54, 55, 56, 57, 95])))]) 11 true, og 14 (b .eql (t 13) (.c (.d (.s [])))) 11 true, o 15 (.pick (t 11) (t 14) (.c (.d (.b false)))), m 2 15])
 .ret)), false⟩
def a118 : AFn := ⟨19, [.tmp 4],
 (.seq (.reg [o 4 (.mv (k 0))])
 (.seq (.seq (.reg [m 6 0, o 7 (.len 1 (t 6)), o 8 (.mv (k 0))])
 (.blk 0 (.loop (.seq (.reg [o 9 (b .lss (t 8) (t 7))])
 (.seq (.cond (t 9)
 .skip
 (.exit 0))
 (.seq (.blk 1 (.seq (.reg [m 10 8, m 5 10])
 (.seq (.reg [m 11 1, m 12 0, m 13 5, o 14 (.iaS 6 (t 12) (t 13)), o 15 (.load true 6 (t 14)), o 16 (.callv (t 11) [(t 15)])])
 (.cond (t 16)
 (.seq (.reg [m 17 5, m 4 17])
 .ret)
 .skip))))
 (.reg [o 18 (b .add (t 8) (k 1)), m 8 18])))))))
 (.seq (.reg [o 4 (.mv (k (-1)))])
 .ret))), false⟩
def a119 : AFn := ⟨12, [.tmp 4],
 (.seq (.reg [o 4 (.mv (.c (.d (.b false))))])
 (.seq (.reg [m 5 0, o 6 (b .geq (t 5) (k 0)), m 7 6, mg 8 0 7 true, mg 9 1 7 true, og 10 (b .leq (t 8) (t 9)) 7 true, o 11 (.pick (t 7) (t 10) (.c (.d (.b false)))), m 4 11])
 .ret)), false⟩
def a120 : AFn := ⟨9, [.tmp 4],
 (.seq (.reg [o 4 (.mv (.c (.d (.b false))))])
 (.seq (.reg [m 5 0, m 6 1, o 7 (.callf 131 [(t 5), (t 6)]), o 8 (b .geq (t 7) (k 0)), m 4 8])
 .ret)), false⟩
def a121 : AFn := ⟨6, [.tmp 2],
 (.seq (.reg [o 2 (.mv (.c (.d (.b false))))])
 (.seq (.reg [m 3 0, o 4 (.callf 115 [(t 3)]), o 5 (.un .not (t 4)), m 2 5])
 .ret)), false⟩
def a122 : AFn := ⟨8, [.tmp 4],
 (.seq (.reg [o 4 (.mv (k 0))])
 (.seq (.reg [m 5 0, m 6 1, o 7 (.callf 132 [(t 5), (t 6), (.c (.d (.b true)))]), m 4 7])
 .ret)), false⟩
def a123 : AFn := ⟨49, [.tmp 2],
 (.seq (.reg [o 1 (.box 29 (t 0)), o 2 (.mv (.c (.d (.b false))))])
 (.seq (.seq (.reg [o 3 (.fadd 0 (t 1)), l 4 3])
 (.blk 0 (.seq (.reg [o 6 (b .eql (t 4) (.c (.d (.i .u8 0)))), m 5 6])
 (.cond (t 5)
 (.seq (.reg [o 7 (.fadd 2 (t 1)), l 8 7, o 9 (b .eql (t 8) (.c (.d (.s [])))), m 10 9, og 11 (.fadd 3 (t 1)) 10 true, lg 12 11 10 true, og 13 (.len 1 (t 12)) 10 true, og 14 (b .eql (t 13) (k 0)) 10 true, o 15 (.pick (t 10) (t 14) (.c (.d (.b false)))), m 2 15])
 .ret)
 (.seq (.reg [o 17 (b .eql (t 4) (.c (.d (.i .u8 1)))), m 16 17])
 (.cond (t 16)
 (.seq (.reg [o 18 (.fadd 1 (t 1)), l 19 18, o 20 (b .eql (t 19) (k 0)), m 21 20, og 22 (.fadd 3 (t 1)) 21 true, lg 23 22 21 true, og 24 (.len 1 (t 23)) 21 true, og 25 (b .eql (t 24) (k 0)) 21 true, o 26 (.pick (t 21) (t 25) (.c (.d (.b false)))), m 27 26, og 28 (.fadd 2 (t 1)) 27 true, lg 29 28 27 true, og 30 (.len 0 (t 29)) 27 true, og 31 (b .leq (t 30) (k 100)) 27 true, o 32 (.pick (t 27) (t 31) (.c (.d (.b false)))), m 2 32])
 .ret)
 (.seq (.reg [o 34 (b .eql (t 4) (.c (.d (.i .u8 2)))), m 33 34])
 (.cond (t 33)
 (.seq (.reg [o 35 (.fadd 1 (t 1)), l 36 35, o 37 (b .eql (t 36) (k 0)), m 38 37, og 39 (.fadd 2 (t 1)) 38 true, lg 40 39 38 true, og 41 (b .eql (t 40) (.c (.d (.s [])))) 38 true, o 42 (.pick (t 38) (t 41) (.c (.d (.b false)))), m 43 42, og 44 (.fadd 3 (t 1)) 43 true, lg 45 44 43 true, og 46 (.len 1 (t 45)) 43 true, og 47 (b .leq (t 46) (k 40)) 43 true, o 48 (.pick (t 43) (t 47) (.c (.d (.b false)))), m 2 48])
 .ret)
 .skip))))))))
 (.seq (.reg [o 2 (.mv (.c (.d (.b false))))])
 .ret))), false⟩
def a124 : AFn := ⟨9, [.tmp 4],
 (.seq (.reg [o 4 (.mv (.c (.d (.b false))))])
 (.seq (.reg [m 5 0, m 6 1, o 7 (.callf 133 [(t 5), (t 6)]), o 8 (b .geq (t 7) (k 0)), m 4 8])
 .ret)), false⟩
def a125 : AFn := ⟨11, [.tmp 4],
 (.seq (.reg [o 3 (.box 29 (t 0)), o 4 (.mv (.c (.d (.b false))))])
 (.seq (.reg [l 5 1, o 6 (.load true 4 (t 3)), l 7 2, o 8 (b .sub (t 7) (k 1)), o 9 (.callf 107 [(t 5), (t 6), (t 8)]), o 10 (.un .not (t 9)), m 4 10])
 .ret)), false⟩
def a127 : AFn := ⟨43, [.tmp 4],
 (.seq (.reg [o 4 (.mv (.c (.d (.s []))))])
 (.seq (.seq (.reg [m 7 0, o 8 (b .eql (t 7) (.c (.d (.s [])))), m 9 8, mg 10 1 9 false, og 11 (b .eql (t 10) (.c (.d (.s [])))) 9 false, o 12 (.pick (t 9) (.c (.d (.b true))) (t 11))])
 (.cond (t 12)
 (.seq (.reg [m 13 0, m 4 13])
 .ret)
 .skip))
 (.seq (.seq (.reg [m 14 1, o 15 (.len 0 (t 14)), o 16 (b .eql (t 15) (k 1)), m 17 16, mg 18 1 17 true, og 19 (.ixS (t 18) (k 0)) 17 true, og 20 (b .lss (t 19) (.c (.d (.i .u8 128)))) 17 true, o 21 (.pick (t 17) (t 20) (.c (.d (.b false))))])
 (.cond (t 21)
 (.seq (.dreg 0 [⟨m 22 0, 0, false, [], none⟩, ⟨m 23 1, 1, false, [], none⟩, ⟨o 24 (.ixS (t 23) (k 0)), 2, false, [], none⟩, ⟨o 25 (.callf 135 [(t 22), (t 24)]), 3, true, [], none⟩, ⟨m 26 1, 4, false, [], none⟩, ⟨o 27 (.ixS (t 26) (k 0)), 5, false, [], none⟩, ⟨o 28 (.callf 134 [(t 25), (t 27)]), 6, true, [], none⟩, ⟨m 4 28, 7, false, [6, 3], none⟩])
 .ret)
 .skip))
 (.seq (.seq (.reg [m 30 1, o 31 (.callf 136 [(t 30)]), m 29 31, o 32 (.extr (t 29) 0), o 33 (.extr (t 29) 1), o 5 (.alloc 163 z1), u (.store 256 (t 5) (t 32)), m 6 33])
 (.seq (.reg [m 34 6])
 (.cond (t 34)
 (.seq (.reg [m 35 0, o 36 (.callf 138 [(t 35), (t 5)]), o 37 (.callf 137 [(t 36), (t 5)]), m 4 37])
 .ret)
 .skip)))
 (.seq (.reg [m 38 0, m 39 1, o 40 (.callf 140 [(t 38), (t 39)]), m 41 1, o 42 (.callf 139 [(t 40), (t 41)]), m 4 42])
 .ret))))), false⟩
def a131 : AFn := ⟨19, [.tmp 4],
 (.seq (.reg [o 4 (.mv (k 0))])
 (.seq (.seq (.reg [m 6 0, o 7 (.len 1 (t 6)), o 8 (.mv (k 0))])
 (.blk 0 (.loop (.seq (.reg [o 9 (b .lss (t 8) (t 7))])
 (.seq (.cond (t 9)
 .skip
 (.exit 0))
 (.seq (.blk 1 (.seq (.reg [m 10 8, m 5 10])
 (.seq (.reg [m 11 1, m 12 0, m 13 5, o 14 (.iaS 1 (t 12) (t 13)), l 15 14, o 16 (.callv (t 11) [(t 15)])])
 (.cond (t 16)
 (.seq (.reg [m 17 5, m 4 17])
 .ret)
 .skip))))
 (.reg [o 18 (b .add (t 8) (k 1)), m 8 18])))))))
 (.seq (.reg [o 4 (.mv (k (-1)))])
 .ret))), false⟩
def a132 : AFn := ⟨21, [.tmp 6],
 (.seq (.reg [o 6 (.mv (k 0))])
 (.seq (.seq (.reg [m 9 0, o 10 (.rng true (t 9))])
 (.blk 0 (.loop (.seq (.reg [o 11 (.nxt true (t 10)), o 12 (.extr (t 11) 0)])
 (.seq (.cond (t 12)
 .skip
 (.exit 0))
 (.blk 1 (.seq (.reg [o 13 (.extr (t 11) 1), o 14 (.extr (t 11) 2), m 7 13, m 8 14])
 (.seq (.reg [m 15 1, m 16 8, o 17 (.callv (t 15) [(t 16)]), m 18 2, o 19 (.bin .eql .bool (t 17) (t 18))])
 (.cond (t 19)
 (.seq (.reg [m 20 7, m 6 20])
 .ret)
 .skip)))))))))
 (.seq (.reg [o 6 (.mv (k (-1)))])
 .ret))), false⟩
def a133 : AFn := ⟨19, [.tmp 4],
 (.seq (.reg [o 4 (.mv (k 0))])
 (.seq (.seq (.reg [m 6 0, o 7 (.len 1 (t 6)), o 8 (.mv (k 0))])
 (.blk 0 (.loop (.seq (.reg [o 9 (b .lss (t 8) (t 7))])
 (.seq (.cond (t 9)
 .skip
 (.exit 0))
 (.seq (.blk 1 (.seq (.reg [m 10 8, m 5 10])
 (.seq (.reg [m 11 1, m 12 0, m 13 5, o 14 (.iaS 4 (t 12) (t 13)), o 15 (.load true 4 (t 14)), o 16 (.callv (t 11) [(t 15)])])
 (.cond (t 16)
 (.seq (.reg [m 17 5, m 4 17])
 .ret)
 .skip))))
 (.reg [o 18 (b .add (t 8) (k 1)), m 8 18])))))))
 (.seq (.reg [o 4 (.mv (k (-1)))])
 .ret))), false⟩
def a136 : AFn := ⟨21, [.cell 2 true 256, .tmp 3],
 (.seq (.reg [o 2 (.alloc 163 z1), o 3 (.mv (.c (.d (.b false))))])
 (.seq (.seq (.reg [o 4 (.mv (k 0))])
 (.blk 0 (.loop (.seq (.seq (.reg [m 6 4, m 7 0, o 8 (.len 0 (t 7)), o 9 (b .lss (t 6) (t 8))])
 (.cond (t 9)
 .skip
 (.exit 0)))
 (.seq (.blk 1 (.seq (.reg [m 12 0, m 13 4, o 14 (.ixS (t 12) (t 13)), m 5 14])
 (.seq (.seq (.reg [m 15 5, o 16 (b .geq (t 15) (.c (.d (.i .u8 128))))])
 (.cond (t 16)
 (.seq (.reg [o 17 (.load true 256 (t 2)), u (.store 256 (t 2) (t 17)), o 3 (.mv (.c (.d (.b false))))])
 .ret)
 .skip))
 (.reg [m 18 5, o 19 (.iaA 256 1 (t 2) (t 18)), u (.store 1 (t 19) (.c (.d (.b true))))]))))
 (.reg [m 10 4, o 11 (b .add (t 10) (k 1)), m 4 11]))))))
 (.seq (.reg [o 20 (.load true 256 (t 2)), u (.store 256 (t 2) (t 20)), o 3 (.mv (.c (.d (.b true))))])
 .ret))), false⟩
def a137 : AFn := ⟨16, [.tmp 4],
 (.seq (.reg [o 4 (.mv (.c (.d (.s []))))])
 (.seq (.blk 0 (.loop (.seq (.seq (.reg [m 5 0, o 6 (.len 0 (t 5)), o 7 (b .gtr (t 6) (k 0))])
 (.cond (t 7)
 .skip
 (.exit 0)))
 (.blk 1 (.seq (.seq (.reg [m 8 1, m 9 0, o 10 (.ixS (t 9) (k 0)), o 11 (.callf 142 [(t 8), (t 10)]), o 12 (.un .not (t 11))])
 (.cond (t 12)
 (.exit 0)
 .skip))
 (.reg [m 13 0, o 14 (.slStr (t 13) (some (k 1)) none), m 0 14]))))))
 (.seq (.reg [m 15 0, m 4 15])
 .ret))), false⟩
def a138 : AFn := ⟨22, [.tmp 4],
 (.seq (.reg [o 4 (.mv (.c (.d (.s []))))])
 (.seq (.blk 0 (.loop (.seq (.seq (.reg [m 5 0, o 6 (.len 0 (t 5)), o 7 (b .gtr (t 6) (k 0))])
 (.cond (t 7)
 .skip
 (.exit 0)))
 (.blk 1 (.seq (.seq (.reg [m 8 1, m 9 0, m 10 0, o 11 (.len 0 (t 10)), o 12 (b .sub (t 11) (k 1)), o 13 (.ixS (t 9) (t 12)), o 14 (.callf 142 [(t 8), (t 13)]), o 15 (.un .not (t 14))])
 (.cond (t 15)
 (.exit 0)
 .skip))
 (.reg [m 16 0, m 17 0, o 18 (.len 0 (t 17)), o 19 (b .sub (t 18) (k 1)), o 20 (.slStr (t 16) none (some (t 19))), m 0 20]))))))
 (.seq (.reg [m 21 0, m 4 21])
 .ret))), false⟩
def a142 : AFn := ⟨10, [.tmp 4],
 (.seq (.reg [o 4 (.mv (.c (.d (.b false))))])
 (.seq (.reg [m 5 0, m 6 1, o 7 (.nilchk (t 5)), o 8 (.iaA 256 1 (t 7) (t 6)), l 9 8, m 4 9])
 .ret)), false⟩
def fnT : FT := (.node 58 a58 (.node 30 a30 (.node 16 a16 (.node 10 a10 (.node 7 a7 (.node 5 a5 (.node 3 a3 .leaf .leaf) (.node 6 a6 .leaf .leaf)) (.node 9 a9 (.node 8 a8 .leaf .leaf) .leaf)) (.node 13 a13 (.node 12 a12 (.node 11 a11 .leaf .leaf) .leaf) (.node 15 a15 (.node 14 a14 .leaf .leaf) .leaf))) (.node 24 a24 (.node 21 a21 (.node 18 a18 (.node 17 a17 .leaf .leaf) (.node 19 a19 .leaf .leaf)) (.node 23 a23 (.node 22 a22 .leaf .leaf) .leaf)) (.node 27 a27 (.node 26 a26 (.node 25 a25 .leaf .leaf) .leaf) (.node 29 a29 (.node 28 a28 .leaf .leaf) .leaf)))) (.node 45 a45 (.node 37 a37 (.node 34 a34 (.node 32 a32 (.node 31 a31 .leaf .leaf) (.node 33 a33 .leaf .leaf)) (.node 36 a36 (.node 35 a35 .leaf .leaf) .leaf)) (.node 42 a42 (.node 41 a41 (.node 40 a40 .leaf .leaf) .leaf) (.node 44 a44 (.node 43 a43 .leaf .leaf) .leaf))) (.node 51 a51 (.node 48 a48 (.node 47 a47 (.node 46 a46 .leaf .leaf) .leaf) (.node 50 a50 (.node 49 a49 .leaf .leaf) .leaf)) (.node 55 a55 (.node 53 a53 (.node 52 a52 .leaf .leaf) .leaf) (.node 57 a57 (.node 56 a56 .leaf .leaf) .leaf))))) (.node 103 a103 (.node 74 a74 (.node 68 a68 (.node 65 a65 (.node 63 a63 (.node 62 a62 .leaf .leaf) (.node 64 a64 .leaf .leaf)) (.node 67 a67 (.node 66 a66 .leaf .leaf) .leaf)) (.node 71 a71 (.node 70 a70 (.node 69 a69 .leaf .leaf) .leaf) (.node 73 a73 (.node 72 a72 .leaf .leaf) .leaf))) (.node 87 a87 (.node 84 a84 (.node 81 a81 (.node 80 a80 .leaf .leaf) .leaf) (.node 86 a86 (.node 85 a85 .leaf .leaf) .leaf)) (.node 90 a90 (.node 89 a89 (.node 88 a88 .leaf .leaf) .leaf) (.node 102 a102 (.node 91 a91 .leaf .leaf) .leaf)))) (.node 122 a122 (.node 110 a110 (.node 107 a107 (.node 105 a105 (.node 104 a104 .leaf .leaf) (.node 106 a106 .leaf .leaf)) (.node 109 a109 (.node 108 a108 .leaf .leaf) .leaf)) (.node 119 a119 (.node 118 a118 (.node 115 a115 .leaf .leaf) .leaf) (.node 121 a121 (.node 120 a120 .leaf .leaf) .leaf))) (.node 132 a132 (.node 125 a125 (.node 124 a124 (.node 123 a123 .leaf .leaf) .leaf) (.node 131 a131 (.node 127 a127 .leaf .leaf) .leaf)) (.node 137 a137 (.node 136 a136 (.node 133 a133 .leaf .leaf) .leaf) (.node 142 a142 (.node 138 a138 .leaf .leaf) .leaf))))))
end
end Go.Proofs.YtjacnbabnpgpaaaGreatDoor
