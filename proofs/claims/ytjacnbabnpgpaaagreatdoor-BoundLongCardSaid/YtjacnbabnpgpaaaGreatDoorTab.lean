/- Code. -/
import Derived.Test.YtjacnbabnpgpaaaGreatDoorZA
namespace Go.Proofs.YtjacnbabnpgpaaaGreatDoor
noncomputable section
open Go Go.Abs Go.Abs.T
def a4 : AFn := ⟨91, [.tmp 2],
 (.seq (.reg [o 1 (.box 32 (t 0)), o 2 (.mv (.c (.d (.b false))))])
 (.seq (.seq (.reg [o 12 (.load true 9 (t 1)), o 13 (.callf 6 [(t 12)]), o 14 (.un .not (t 13))])
 (.cond (t 14)
 (.seq (.reg [o 15 (.callf 7 []), m 2 15])
 .ret)
 .skip))
 (.seq (.reg [o 17 (.load true 9 (t 1)), o 18 (.callf 8 [(t 17)]), m 16 18, o 19 (.extr (t 16) 0), o 20 (.extr (t 16) 1), m 3 19, m 4 20])
 (.seq (.reg [o 22 (.load true 9 (t 1)), o 23 (.build [(.d (.i .u8 0)), (.d (.i .u64 0)), (.d (.i .u8 0)), (.d (.s [])), (.d (.i .i64 0)), (.d (.i .u8 0)), (.d (.i .i64 0)), (.d (.s [])), .nilsl, .nilsl, (.d (.i .i64 0)), (.d (.i .i64 0)), (.d (.i .i64 0)), (.d (.i .i64 0)), (.d (.i .i64 0)), (.d (.i .i64 0)), (.d (.i .i64 0)), .nilsl, (.d (.i .i64 0))] [(0, 1, (.c (.d (.i .u8 1)))), (1, 1, (.c (.d (.i .u64 7)))), (2, 9, (t 22))]), o 24 (.callf 19 [(t 23)]), m 21 24, o 25 (.extr (t 21) 0), o 26 (.extr (t 21) 1), m 5 25, m 6 26])
 (.seq (.seq (.reg [m 27 4, m 28 6, o 29 (b .neq (t 27) (t 28))])
 (.cond (t 29)
 (.seq (.reg [o 2 (.mv (.c (.d (.b false))))])
 .ret)
 .skip))
 (.seq (.seq (.reg [m 30 4, o 31 (b .neq (t 30) (k 0))])
 (.cond (t 31)
 (.seq (.reg [m 32 3, o 33 (b .eql (t 32) (k 0)), m 34 33, og 35 (.callf 7 []) 34 true, o 36 (.pick (t 34) (t 35) (.c (.d (.b false)))), m 2 36])
 .ret)
 .skip))
 (.seq (.reg [m 38 5, o 39 (.callf 20 [(t 38)]), m 37 39, o 40 (.extr (t 37) 0), o 41 (.extr (t 37) 1), m 7 40, m 8 41])
 (.seq (.seq (.reg [m 42 8, o 43 (b .neq (t 42) (k 0)), m 44 43, mg 45 7 44 false, og 46 (.len 1 (t 45)) 44 false, mg 47 3 44 false, og 48 (b .neq (t 46) (t 47)) 44 false, o 49 (.pick (t 44) (.c (.d (.b true))) (t 48)), m 50 49, mg 51 3 50 false, og 52 (.callf 21 []) 50 false, og 53 (b .gtr (t 51) (t 52)) 50 false, o 54 (.pick (t 50) (.c (.d (.b true))) (t 53))])
 (.cond (t 54)
 (.seq (.reg [o 2 (.mv (.c (.d (.b false))))])
 .ret)
 .skip))
 (.seq (.reg [o 55 (.load true 9 (t 1)), o 9 (.alloc 32 [(.d (.i .u8 0)), (.d (.s [])), (.d (.i .i64 0)), (.d (.i .u8 0)), (.d (.i .i64 0)), (.d (.s [])), .nilsl, .nilsl, (.d (.i .i64 0))]), u (.store 9 (t 9) (t 55))])
 (.seq (.seq (.reg [o 56 (.fadd 0 (t 9)), l 57 56, o 58 (b .eql (t 57) (.c (.d (.i .u8 1)))), m 59 58, og 60 (.fadd 0 (t 9)) 59 false, lg 61 60 59 false, og 62 (b .eql (t 61) (.c (.d (.i .u8 3)))) 59 false, o 63 (.pick (t 59) (.c (.d (.b true))) (t 62))])
 (.cond (t 63)
 (.reg [o 64 (.bsl 60 6 0 [(.d (.s [])), (.d (.i .u8 0)), .nilsl, (.d (.s [])), (.d (.i .i64 0)), (.d (.i .i64 0))] []), o 65 (.fadd 7 (t 1)), l 66 65, o 67 (.app 60 6 80 false (t 64) (t 66)), o 68 (.build [(.d (.s [])), (.d (.i .u8 0)), .nilsl, (.d (.s [])), (.d (.i .i64 0)), (.d (.i .i64 0))] [(0, 1, (.c (.d (.s [109, 111, 114, 101]))))]), o 69 (.bsl 60 6 1 [(.d (.s [])), (.d (.i .u8 0)), .nilsl, (.d (.s [])), (.d (.i .i64 0)), (.d (.i .i64 0))] [(0, 6, (t 68))]), o 70 (.app 60 6 80 false (t 67) (t 69)), o 71 (.fadd 7 (t 9)), u (.store 1 (t 71) (t 70))])
 (.reg [o 72 (.fadd 1 (t 9)), l 73 72, o 74 (b .add (t 73) (.c (.d (.s [120])))), o 75 (.fadd 1 (t 9)), u (.store 1 (t 75) (t 74))])))
 (.seq (.reg [o 77 (.load true 9 (t 9)), o 78 (.callf 8 [(t 77)]), m 76 78, o 79 (.extr (t 76) 0), o 80 (.extr (t 76) 1), m 10 79, m 11 80])
 (.seq (.reg [m 81 11, o 82 (b .neq (t 81) (k 0)), m 83 82, mg 84 10 83 false, mg 85 3 83 false, og 86 (b .gtr (t 84) (t 85)) 83 false, o 87 (.pick (t 83) (.c (.d (.b true))) (t 86)), m 88 87, og 89 (.callf 7 []) 88 true, o 90 (.pick (t 88) (t 89) (.c (.d (.b false)))), m 2 90])
 .ret)))))))))))), false⟩
def a6 : AFn := ⟨17, [.tmp 2],
 (.seq (.reg [o 1 (.box 32 (t 0)), o 2 (.mv (.c (.d (.b false))))])
 (.seq (.reg [o 3 (.fadd 3 (t 1)), o 4 (.load true 4 (t 3)), o 5 (.callf 22 [(t 4)]), m 6 5, og 7 (.fadd 7 (t 1)) 6 true, lg 8 7 6 true, og 9 (.callf 23 [(t 8)]) 6 true, o 10 (.pick (t 6) (t 9) (.c (.d (.b false)))), m 11 10, og 12 (.fadd 1 (t 1)) 11 true, lg 13 12 11 true, og 14 (.len 0 (t 13)) 11 true, og 15 (b .leq (t 14) (k 500)) 11 true, o 16 (.pick (t 11) (t 15) (.c (.d (.b false)))), m 2 16])
 .ret)), false⟩
def a7 : AFn := ⟨53, [.tmp 0],
 (.seq (.reg [o 0 (.mv (.c (.d (.b false))))])
 (.seq (.reg [o 7 (.build [(.d (.s [])), (.d (.s [])), (.d (.i .u8 0)), (.d (.i .i64 0)), (.d (.i .i64 0)), (.d (.i .i64 0)), .nilsl, (.d (.i .i64 0)), (.d (.i .i64 0)), (.d (.i .u8 0)), (.d (.i .i64 0)), (.d (.i .i64 0)), (.d (.i .u8 0)), (.d (.i .i64 0)), (.d (.s [])), .nilsl] [(8, 1, (k 2)), (10, 1, (k 1))]), o 1 (.alloc 45 [(.d (.s [])), (.d (.s [])), (.d (.i .u8 0)), (.d (.i .i64 0)), (.d (.i .i64 0)), (.d (.i .i64 0)), .nilsl, (.d (.i .i64 0)), (.d (.i .i64 0)), (.d (.i .u8 0)), (.d (.i .i64 0)), (.d (.i .i64 0)), (.d (.i .u8 0)), (.d (.i .i64 0)), (.d (.s [])), .nilsl]), u (.store 16 (t 1) (t 7))])
 (.seq (.dreg 2 [⟨o 8 (.load true 16 (t 1)), 0, false, [], none⟩, ⟨o 2 (.alloc 45 [(.d (.s [])), (.d (.s [])), (.d (.i .u8 0)), (.d (.i .i64 0)), (.d (.i .i64 0)), (.d (.i .i64 0)), .nilsl, (.d (.i .i64 0)), (.d (.i .i64 0)), (.d (.i .u8 0)), (.d (.i .i64 0)), (.d (.i .i64 0)), (.d (.i .u8 0)), (.d (.i .i64 0)), (.d (.s [])), .nilsl]), 2, false, [], (some 0)⟩, ⟨o 3 (.alloc 45 [(.d (.s [])), (.d (.s [])), (.d (.i .u8 0)), (.d (.i .i64 0)), (.d (.i .i64 0)), (.d (.i .i64 0)), .nilsl, (.d (.i .i64 0)), (.d (.i .i64 0)), (.d (.i .u8 0)), (.d (.i .i64 0)), (.d (.i .i64 0)), (.d (.i .u8 0)), (.d (.i .i64 0)), (.d (.s [])), .nilsl]), 3, false, [], (some 1)⟩, ⟨u (.store 16 (t 2) (t 8)), 4, true, [], none⟩, ⟨o 9 (.load true 16 (t 1)), 1, false, [], none⟩, ⟨u (.store 16 (t 3) (t 9)), 5, true, [], none⟩])
 (.seq (.reg [o 10 (.fadd 9 (t 2)), u (.store 1 (t 10) (.c (.d (.i .u8 2)))), o 11 (.fadd 9 (t 3)), u (.store 1 (t 11) (.c (.d (.i .u8 3))))])
 (.seq (.reg [o 12 (.build [(.d (.s [])), (.d (.s [])), (.d (.i .u8 0)), (.d (.i .i64 0)), (.d (.i .i64 0)), (.d (.i .i64 0)), .nilsl, (.d (.i .i64 0)), (.d (.i .i64 0)), (.d (.i .u8 0)), (.d (.i .i64 0)), (.d (.i .i64 0)), (.d (.i .u8 0)), (.d (.i .i64 0)), (.d (.s [])), .nilsl] [(2, 1, (.c (.d (.i .u8 1)))), (7, 1, (k 3)), (8, 1, (k 1))]), o 4 (.alloc 45 [(.d (.s [])), (.d (.s [])), (.d (.i .u8 0)), (.d (.i .i64 0)), (.d (.i .i64 0)), (.d (.i .i64 0)), .nilsl, (.d (.i .i64 0)), (.d (.i .i64 0)), (.d (.i .u8 0)), (.d (.i .i64 0)), (.d (.i .i64 0)), (.d (.i .u8 0)), (.d (.i .i64 0)), (.d (.s [])), .nilsl]), u (.store 16 (t 4) (t 12))])
 (.seq (.reg [o 14 (.build [(.d (.i .u8 0)), (.d (.s [])), (.d (.i .i64 0)), (.d (.i .u8 0)), (.d (.i .i64 0)), (.d (.s [])), .nilsl, .nilsl, (.d (.i .i64 0))] [(0, 1, (.c (.d (.i .u8 5)))), (1, 1, (.c (.d (.s [120]))))]), o 15 (.callf 8 [(t 14)]), m 13 15, o 16 (.extr (t 13) 0), o 17 (.extr (t 13) 1), m 5 16, m 6 17])
 (.seq (.reg [o 18 (.load true 16 (t 1)), o 19 (.callf 17 [(t 18), (k 1)]), o 20 (b .eql (t 19) (k 10)), m 21 20, og 22 (.load true 16 (t 2)) 21 true, og 23 (.callf 17 [(t 22), (k 1)]) 21 true, og 24 (b .eql (t 23) (k 9)) 21 true, o 25 (.pick (t 21) (t 24) (.c (.d (.b false)))), m 26 25, og 27 (.load true 16 (t 3)) 26 true, og 28 (.callf 17 [(t 27), (k 1)]) 26 true, og 29 (b .eql (t 28) (k 0)) 26 true, o 30 (.pick (t 26) (t 29) (.c (.d (.b false)))), m 31 30, og 32 (.load true 16 (t 4)) 31 true, og 33 (.callf 17 [(t 32), (k 0)]) 31 true, og 34 (b .eql (t 33) (k 12)) 31 true, o 35 (.pick (t 31) (t 34) (.c (.d (.b false)))), m 36 35, og 37 (.build [(.d (.i .i64 0)), (.d (.i .i64 0)), (.d (.i .i64 0)), (.d (.i .i64 0)), (.d (.i .i64 0))] [(0, 1, (k 10)), (4, 1, (k 2)), (3, 1, (k 1))]) 36 true, og 38 (.callf 16 [(t 37)]) 36 true, og 39 (b .eql (t 38) (k 80)) 36 true, o 40 (.pick (t 36) (t 39) (.c (.d (.b false)))), m 41 40, mg 42 5 41 true, og 43 (b .eql (t 42) (k 32)) 41 true, o 44 (.pick (t 41) (t 43) (.c (.d (.b false)))), m 45 44, mg 46 6 45 true, og 47 (b .eql (t 46) (k 0)) 45 true, o 48 (.pick (t 45) (t 47) (.c (.d (.b false)))), m 49 48, og 50 (.callf 21 []) 49 true, og 51 (b .eql (t 50) (k 39804)) 49 true, o 52 (.pick (t 49) (t 51) (.c (.d (.b false)))), m 0 52])
 .ret))))))), false⟩
def a8 : AFn := ⟨19, [.tmp 2, .tmp 3],
 (.seq (.reg [o 1 (.box 32 (t 0)), o 2 (.mv (k 0)), o 3 (.mv (k 0))])
 (.seq (.reg [o 7 (.load true 9 (t 1)), o 8 (.build [(.d (.i .u8 0)), (.d (.i .u64 0)), (.d (.i .u8 0)), (.d (.s [])), (.d (.i .i64 0)), (.d (.i .u8 0)), (.d (.i .i64 0)), (.d (.s [])), .nilsl, .nilsl, (.d (.i .i64 0)), (.d (.i .i64 0)), (.d (.i .i64 0)), (.d (.i .i64 0)), (.d (.i .i64 0)), (.d (.i .i64 0)), (.d (.i .i64 0)), .nilsl, (.d (.i .i64 0))] [(0, 1, (.c (.d (.i .u8 1)))), (2, 9, (t 7))]), o 9 (.callf 19 [(t 8)]), m 6 9, o 10 (.extr (t 6) 0), o 11 (.extr (t 6) 1), m 4 10, m 5 11])
 (.seq (.seq (.reg [m 12 5, o 13 (b .neq (t 12) (k 0))])
 (.cond (t 13)
 (.seq (.reg [m 14 5, o 2 (.mv (k 0)), m 3 14])
 .ret)
 .skip))
 (.seq (.reg [m 15 4, o 16 (.callf 24 [(t 15)]), o 17 (.extr (t 16) 0), o 18 (.extr (t 16) 1), m 2 17, m 3 18])
 .ret)))), false⟩
def a16 : AFn := ⟨13, [.tmp 2],
 (.seq (.reg [o 1 (.box 23 (t 0)), o 2 (.mv (k 0))])
 (.seq (.reg [o 3 (.fadd 3 (t 1)), l 4 3, o 5 (b .add (t 4) (k 1)), o 6 (b .mul (k 2) (t 5)), o 7 (.fadd 0 (t 1)), l 8 7, o 9 (b .mul (t 6) (t 8)), o 10 (.fadd 4 (t 1)), l 11 10, o 12 (b .mul (t 9) (t 11)), m 2 12])
 .ret)), false⟩
def a17 : AFn := ⟨49, [.tmp 4],
 (.seq (.reg [o 2 (.box 45 (t 0)), o 4 (.mv (k 0))])
 (.seq (.reg [m 9 1, o 10 (b .add (t 9) (k 1)), o 11 (b .mul (k 2) (t 10)), m 5 11])
 (.seq (.seq (.reg [o 12 (.fadd 2 (t 2)), l 13 12, o 14 (b .eql (t 13) (.c (.d (.i .u8 1))))])
 (.cond (t 14)
 (.seq (.reg [m 15 5, o 16 (.fadd 7 (t 2)), l 17 16, o 18 (b .mul (t 15) (t 17)), o 19 (.fadd 8 (t 2)), l 20 19, o 21 (b .add (k 1) (t 20)), o 22 (b .mul (t 18) (t 21)), o 23 (.build [(.d (.i .i64 0)), (.d (.i .i64 0)), (.d (.i .i64 0)), (.d (.i .i64 0)), (.d (.i .i64 0)), (.d (.i .i64 0)), (.d (.i .i64 0))] [(0, 1, (t 22))]), o 6 (.alloc 69 [(.d (.i .i64 0)), (.d (.i .i64 0)), (.d (.i .i64 0)), (.d (.i .i64 0)), (.d (.i .i64 0)), (.d (.i .i64 0)), (.d (.i .i64 0))]), u (.store 7 (t 6) (t 23))])
 (.seq (.reg [o 24 (.fadd 9 (t 2)), l 25 24, o 26 (.mn [(t 25), (.c (.d (.i .u8 6)))]), o 27 (.iaA 7 1 (t 6) (t 26)), l 28 27, m 4 28])
 .ret))
 .skip))
 (.seq (.reg [m 29 5, o 30 (.fadd 10 (t 2)), l 31 30, o 32 (b .mul (k 2) (t 31)), o 33 (b .sub (t 29) (t 32)), m 34 5, o 35 (.fadd 8 (t 2)), l 36 35, o 37 (b .mul (t 34) (t 36)), o 38 (b .add (t 33) (t 37)), m 7 38])
 (.seq (.reg [m 39 7, m 40 7, m 41 7, o 42 (b .sub (t 41) (k 1)), o 43 (.build [(.d (.i .i64 0)), (.d (.i .i64 0)), (.d (.i .i64 0)), (.d (.i .i64 0)), (.d (.i .i64 0)), (.d (.i .i64 0)), (.d (.i .i64 0))] [(0, 1, (t 39)), (1, 1, (t 40)), (2, 1, (t 42))]), o 8 (.alloc 69 [(.d (.i .i64 0)), (.d (.i .i64 0)), (.d (.i .i64 0)), (.d (.i .i64 0)), (.d (.i .i64 0)), (.d (.i .i64 0)), (.d (.i .i64 0))]), u (.store 7 (t 8) (t 43))])
 (.seq (.reg [o 44 (.fadd 9 (t 2)), l 45 44, o 46 (.mn [(t 45), (.c (.d (.i .u8 6)))]), o 47 (.iaA 7 1 (t 8) (t 46)), l 48 47, m 4 48])
 .ret)))))), false⟩
def a19 : AFn := ⟨23, [.tmp 2, .tmp 3],
 (.seq (.reg [o 1 (.box 53 (t 0)), o 2 (.mv (.c .nilsl)), o 3 (.mv (k 0))])
 (.seq (.reg [o 8 (.load true 19 (t 1)), o 9 (.callf 34 [(t 8)]), m 7 9, o 10 (.extr (t 7) 0), o 11 (.extr (t 7) 1), m 4 10, m 5 11])
 (.seq (.seq (.reg [m 12 5, o 13 (b .neq (t 12) (k 0))])
 (.cond (t 13)
 (.seq (.reg [o 2 (.mv (.c .nilsl)), o 3 (.mv (k 2))])
 .ret)
 .skip))
 (.seq (.reg [o 14 (.load true 19 (t 1)), o 15 (.callf 36 [(t 14)]), m 16 4, o 17 (.app 5 1 1 false (t 15) (t 16)), o 18 (.callf 35 [(t 17)]), m 6 18])
 (.seq (.seq (.reg [m 19 6, o 20 (.len 1 (t 19)), o 21 (b .gtr (t 20) (k 1024))])
 (.cond (t 21)
 (.seq (.reg [o 2 (.mv (.c .nilsl)), o 3 (.mv (k 31))])
 .ret)
 .skip))
 (.seq (.reg [m 22 6, m 2 22, o 3 (.mv (k 0))])
 .ret)))))), false⟩
def a20 : AFn := ⟨44, [.tmp 2, .tmp 3],
 (.seq (.reg [o 2 (.mv (.c .nilsl)), o 3 (.mv (k 0))])
 (.seq (.seq (.reg [m 12 0, o 13 (.callf 37 [(t 12)]), m 4 13])
 (.seq (.reg [m 14 4, o 15 (b .neq (t 14) (k 0))])
 (.cond (t 15)
 (.seq (.reg [m 16 4, o 2 (.mv (.c .nilsl)), m 3 16])
 .ret)
 .skip)))
 (.seq (.reg [o 5 (.mv (.c .nilsl))])
 (.seq (.seq (.reg [m 17 0, o 18 (.len 1 (t 17)), o 19 (.mv (k 0))])
 (.blk 0 (.loop (.seq (.reg [o 20 (b .lss (t 19) (t 18))])
 (.seq (.cond (t 20)
 .skip
 (.exit 0))
 (.seq (.blk 1 (.seq (.reg [o 21 (.iaS 1 (t 17) (t 19)), l 22 21, m 7 22])
 (.seq (.reg [m 24 7, o 25 (.build [(.d (.i .u8 0)), .nilsl] [(0, 1, (.c (.d (.i .u8 1)))), (1, 1, (t 24))]), o 26 (.callf 38 [(t 25)]), m 23 26, o 27 (.extr (t 23) 0), o 28 (.extr (t 23) 1), m 8 27, m 9 28])
 (.reg [m 29 5, m 30 8, o 31 (.app 5 1 1 false (t 29) (t 30)), m 5 31]))))
 (.reg [o 32 (b .add (t 19) (k 1)), m 19 32])))))))
 (.seq (.reg [m 34 0, o 35 (.len 1 (t 34)), o 36 (.callf 39 [(t 35)]), o 37 (.build [(.d (.i .u8 0)), .nilsl] [(0, 1, (.c (.d (.i .u8 2)))), (1, 1, (t 36))]), o 38 (.callf 38 [(t 37)]), m 33 38, o 39 (.extr (t 33) 0), o 40 (.extr (t 33) 1), m 10 39, m 11 40])
 (.seq (.reg [m 41 5, m 42 10, o 43 (.app 5 1 1 false (t 41) (t 42)), m 2 43, o 3 (.mv (k 0))])
 .ret)))))), false⟩
def a21 : AFn := ⟨1, [.tmp 0],
 (.seq (.reg [o 0 (.mv (k 0))])
 (.seq (.reg [o 0 (.mv (k 39804))])
 .ret)), false⟩
def a22 : AFn := ⟨6, [.tmp 2],
 (.seq (.reg [o 1 (.box 29 (t 0)), o 2 (.mv (.c (.d (.b false))))])
 (.seq (.reg [o 3 (.load true 4 (t 1)), o 4 (.callf 40 [(t 3), (k 20)]), o 5 (b .leq (t 4) (k 600)), m 2 5])
 .ret)), false⟩
def a23 : AFn := ⟨44, [.tmp 2],
 (.seq (.reg [o 2 (.mv (.c (.d (.b false))))])
 (.seq (.seq (.reg [m 7 0, o 8 (.len 1 (t 7)), o 9 (.mv (k 0))])
 (.blk 0 (.loop (.seq (.reg [o 10 (b .lss (t 9) (t 8))])
 (.seq (.cond (t 10)
 .skip
 (.exit 0))
 (.seq (.blk 1 (.seq (.reg [o 11 (.iaS 6 (t 7) (t 9)), o 12 (.load true 6 (t 11)), o 4 (.alloc 60 [(.d (.s [])), (.d (.i .u8 0)), .nilsl, (.d (.s [])), (.d (.i .i64 0)), (.d (.i .i64 0))]), u (.store 6 (t 4) (t 12))])
 (.seq (.seq (.reg [o 13 (.fadd 2 (t 4)), l 14 13, o 15 (.len 1 (t 14)), o 16 (b .gtr (t 15) (k 40)), m 17 16, og 18 (.fadd 0 (t 4)) 17 false, lg 19 18 17 false, og 20 (.len 0 (t 19)) 17 false, og 21 (b .gtr (t 20) (k 100)) 17 false, o 22 (.pick (t 17) (.c (.d (.b true))) (t 21)), m 23 22, og 24 (.fadd 3 (t 4)) 23 false, lg 25 24 23 false, og 26 (.len 0 (t 25)) 23 false, og 27 (b .gtr (t 26) (k 100)) 23 false, o 28 (.pick (t 23) (.c (.d (.b true))) (t 27))])
 (.cond (t 28)
 (.seq (.reg [o 2 (.mv (.c (.d (.b false))))])
 .ret)
 .skip))
 (.seq (.reg [o 29 (.fadd 2 (t 4)), l 30 29, o 31 (.len 1 (t 30)), o 32 (.mv (k 0))])
 (.blk 2 (.loop (.seq (.reg [o 33 (b .lss (t 32) (t 31))])
 (.seq (.cond (t 33)
 .skip
 (.exit 2))
 (.seq (.blk 3 (.seq (.reg [o 34 (.iaS 1 (t 30) (t 32)), l 35 34, m 6 35])
 (.seq (.reg [m 36 6, o 37 (.len 0 (t 36)), o 38 (b .gtr (t 37) (k 100))])
 (.cond (t 38)
 (.seq (.reg [o 2 (.mv (.c (.d (.b false))))])
 .ret)
 .skip))))
 (.reg [o 39 (b .add (t 32) (k 1)), m 32 39]))))))))))
 (.reg [o 40 (b .add (t 9) (k 1)), m 9 40])))))))
 (.seq (.reg [m 41 0, o 42 (.len 1 (t 41)), o 43 (b .leq (t 42) (k 60)), m 2 43])
 .ret))), false⟩
def a24 : AFn := ⟨27, [.tmp 2, .tmp 3],
 (.seq (.reg [o 2 (.mv (k 0)), o 3 (.mv (k 0))])
 (.seq (.seq (.reg [m 8 0, o 9 (.callf 37 [(t 8)]), m 4 9])
 (.seq (.reg [m 10 4, o 11 (b .neq (t 10) (k 0))])
 (.cond (t 11)
 (.seq (.reg [m 12 4, o 2 (.mv (k 0)), m 3 12])
 .ret)
 .skip)))
 (.seq (.reg [o 13 (.callf 41 [(k 2)]), m 5 13])
 (.seq (.seq (.reg [m 14 0, o 15 (.len 1 (t 14)), o 16 (.mv (k 0))])
 (.blk 0 (.loop (.seq (.reg [o 17 (b .lss (t 16) (t 15))])
 (.seq (.cond (t 17)
 .skip
 (.exit 0))
 (.seq (.blk 1 (.seq (.reg [o 18 (.iaS 1 (t 14) (t 16)), l 19 18, m 7 19])
 (.reg [m 20 5, m 21 7, o 22 (.len 1 (t 21)), o 23 (.callf 41 [(t 22)]), o 24 (b .add (t 20) (t 23)), m 5 24])))
 (.reg [o 25 (b .add (t 16) (k 1)), m 16 25])))))))
 (.seq (.reg [m 26 5, m 2 26, o 3 (.mv (k 0))])
 .ret))))), false⟩
def a34 : AFn := ⟨20, [.tmp 2, .tmp 3],
 (.seq (.reg [o 1 (.box 53 (t 0)), o 2 (.mv (.c .nilsl)), o 3 (.mv (k 0))])
 (.seq (.seq (.reg [o 4 (.fadd 0 (t 1)), l 5 4])
 (.blk 0 (.seq (.reg [o 7 (b .eql (t 5) (.c (.d (.i .u8 1)))), m 6 7])
 (.cond (t 6)
 (.seq (.reg [o 8 (.fadd 2 (t 1)), o 9 (.load true 9 (t 8)), o 10 (.callf 53 [(t 9)]), o 11 (.extr (t 10) 0), o 12 (.extr (t 10) 1), m 2 11, m 3 12])
 .ret)
 (.seq (.reg [o 14 (b .eql (t 5) (.c (.d (.i .u8 2)))), m 13 14])
 (.cond (t 13)
 (.seq (.reg [o 15 (.fadd 11 (t 1)), o 16 (.load true 8 (t 15)), o 17 (.callf 54 [(t 16)]), o 18 (.extr (t 17) 0), o 19 (.extr (t 17) 1), m 2 18, m 3 19])
 .ret)
 .skip))))))
 (.seq (.reg [o 2 (.mv (.c .nilsl)), o 3 (.mv (k 2))])
 .ret))), false⟩
def a35 : AFn := ⟨18, [.tmp 2],
 (.seq (.reg [o 2 (.mv (.c .nilsl))])
 (.seq (.reg [o 3 (.alloc 48 [.nilsl])])
 (.seq (.seq (.reg [m 5 0, o 6 (.clone 56 5 1 1 false (t 5)), o 7 (.callf 55 [(t 6), (k 4096)])])
 (.blk 0 (.rfun (t 7) [8] (.reg [m 4 8]) (.blk 1 (.reg [l 9 3, m 10 4, o 11 (.bsl 54 1 1 [.nilsl] [(0, 1, (t 10))]), o 12 (.app 54 1 24 false (t 9) (t 11)), u (.store 1 (t 3) (t 12))])))))
 (.seq (.seq (.reg [l 13 3, o 14 (.len 1 (t 13)), o 15 (b .eql (t 14) (k 0))])
 (.cond (t 15)
 (.seq (.reg [o 16 (.bsl 54 1 1 [.nilsl] [(0, 1, (.c .nilsl))]), m 2 16])
 .ret)
 .skip))
 (.seq (.reg [l 17 3, m 2 17])
 .ret))))), false⟩
def a36 : AFn := ⟨22, [.tmp 2],
 (.seq (.reg [o 1 (.box 53 (t 0)), o 2 (.mv (.c .nilsl))])
 (.seq (.reg [o 5 (.fadd 0 (t 1)), l 6 5, o 7 (.bsl 5 1 1 [(.d (.i .u8 0))] [(0, 1, (t 6))]), m 3 7])
 (.seq (.seq (.reg [o 8 (.mv (k 0))])
 (.blk 0 (.loop (.seq (.reg [o 9 (b .lss (t 8) (k 8))])
 (.seq (.cond (t 9)
 .skip
 (.exit 0))
 (.seq (.blk 1 (.seq (.reg [m 10 8, m 4 10])
 (.reg [m 11 3, o 12 (.fadd 1 (t 1)), l 13 12, m 14 4, o 15 (b .mul (k 8) (t 14)), o 16 (b .shr (t 13) (t 15)), o 17 (.cvi .u8 (t 16)), o 18 (.bsl 5 1 1 [(.d (.i .u8 0))] [(0, 1, (t 17))]), o 19 (.app 5 1 1 false (t 11) (t 18)), m 3 19])))
 (.reg [o 20 (b .add (t 8) (k 1)), m 8 20])))))))
 (.seq (.reg [m 21 3, m 2 21])
 .ret)))), false⟩
def a37 : AFn := ⟨17, [.tmp 2],
 (.seq (.reg [o 2 (.mv (k 0))])
 (.seq (.reg [o 3 (.mv (.c (.d (.fn (.func 57) [] []))))])
 (.seq (.blk 0 (.seq (.reg [m 5 0, o 6 (.len 1 (t 5)), o 7 (b .eql (t 6) (k 0)), m 8 7, mg 9 0 8 false, og 10 (.len 1 (t 9)) 8 false, og 11 (b .gtr (t 10) (k 1024)) 8 false, o 12 (.pick (t 8) (.c (.d (.b true))) (t 11)), m 4 12])
 (.cond (t 4)
 (.seq (.reg [o 2 (.mv (k 34))])
 .ret)
 (.seq (.reg [m 14 0, m 15 3, o 16 (.callf 58 [(t 14), (t 15)]), m 13 16])
 (.cond (t 13)
 (.seq (.reg [o 2 (.mv (k 31))])
 .ret)
 .skip)))))
 (.seq (.reg [o 2 (.mv (k 0))])
 .ret)))), false⟩
def a38 : AFn := ⟨32, [.tmp 2, .tmp 3],
 (.seq (.reg [o 1 (.box 75 (t 0)), o 2 (.mv (.c .nilsl)), o 3 (.mv (k 0))])
 (.seq (.blk 0 (.seq (.reg [o 6 (.fadd 0 (t 1)), l 7 6, o 8 (.callf 59 [(t 7)]), o 9 (.un .not (t 8)), m 5 9])
 (.cond (t 5)
 (.seq (.reg [o 2 (.mv (.c .nilsl)), o 3 (.mv (k 30))])
 .ret)
 (.seq (.reg [o 11 (.fadd 1 (t 1)), l 12 11, o 13 (.len 1 (t 12)), o 14 (b .gtr (t 13) (k 4096)), m 10 14])
 (.cond (t 10)
 (.seq (.reg [o 2 (.mv (.c .nilsl)), o 3 (.mv (k 31))])
 .ret)
 .skip)))))
 (.seq (.dreg 1 [⟨o 18 (.fadd 1 (t 1)), 3, false, [], none⟩, ⟨l 19 18, 4, false, [], none⟩, ⟨o 20 (.len 1 (t 19)), 5, false, [], none⟩, ⟨o 21 (.cvi .u32 (t 20)), 6, false, [], none⟩, ⟨o 22 (.callf 60 [(t 21)]), 7, true, [], none⟩, ⟨o 15 (.fadd 0 (t 1)), 0, false, [], none⟩, ⟨l 16 15, 1, false, [], none⟩, ⟨o 17 (.bsl 5 1 1 [(.d (.i .u8 0))] [(0, 1, (t 16))]), 2, false, [], (some 0)⟩, ⟨o 23 (.app 5 1 1 false (t 17) (t 22)), 8, true, [], none⟩, ⟨o 24 (.fadd 1 (t 1)), 9, false, [], none⟩, ⟨l 25 24, 10, false, [], none⟩, ⟨o 26 (.app 5 1 1 false (t 23) (t 25)), 11, true, [], none⟩, ⟨m 4 26, 12, false, [11, 8, 7], none⟩])
 (.seq (.reg [m 27 4, o 28 (.callf 61 [(t 27)]), o 29 (.callf 60 [(t 28)]), m 30 4, o 31 (.app 5 1 1 false (t 29) (t 30)), m 2 31, o 3 (.mv (k 0))])
 .ret)))), false⟩
def a39 : AFn := ⟨9, [.tmp 2],
 (.seq (.reg [o 2 (.mv (.c .nilsl))])
 (.seq (.reg [m 3 0, o 4 (.cvi .u8 (t 3)), m 5 0, o 6 (b .shr (t 5) (.c (.d (.i .u64 8)))), o 7 (.cvi .u8 (t 6)), o 8 (.bsl 5 1 2 [(.d (.i .u8 0))] [(0, 1, (t 4)), (1, 1, (t 7))]), m 2 8])
 .ret)), false⟩
def a40 : AFn := ⟨28, [.tmp 4],
 (.seq (.reg [o 2 (.box 29 (t 0)), o 4 (.mv (k 0))])
 (.seq (.seq (.reg [m 8 1, o 9 (b .eql (t 8) (k 0))])
 (.cond (t 9)
 (.seq (.reg [o 4 (.mv (k 1000000))])
 .ret)
 .skip))
 (.seq (.reg [o 5 (.mv (k 1))])
 (.seq (.seq (.reg [o 10 (.fadd 3 (t 2)), l 11 10, o 12 (.len 1 (t 11)), o 13 (.mv (k 0))])
 (.blk 0 (.loop (.seq (.reg [o 14 (b .lss (t 13) (t 12))])
 (.seq (.cond (t 14)
 .skip
 (.exit 0))
 (.seq (.blk 1 (.seq (.reg [o 15 (.iaS 4 (t 11) (t 13)), o 16 (.load true 4 (t 15)), o 7 (.alloc 29 [(.d (.i .u8 0)), (.d (.i .i64 0)), (.d (.s [])), .nilsl]), u (.store 4 (t 7) (t 16))])
 (.seq (.reg [m 17 5, o 18 (.load true 4 (t 7)), m 19 1, o 20 (b .sub (t 19) (k 1)), o 21 (.callf 40 [(t 18), (t 20)]), o 22 (b .add (t 17) (t 21)), m 5 22])
 (.seq (.reg [m 23 5, o 24 (b .gtr (t 23) (k 1000000))])
 (.cond (t 24)
 (.seq (.reg [m 25 5, m 4 25])
 .ret)
 .skip)))))
 (.reg [o 26 (b .add (t 13) (k 1)), m 13 26])))))))
 (.seq (.reg [m 27 5, m 4 27])
 .ret))))), false⟩
def a41 : AFn := ⟨11, [.tmp 2],
 (.seq (.reg [o 2 (.mv (k 0))])
 (.seq (.seq (.reg [m 3 0, o 4 (b .lss (t 3) (k 0)), m 5 4, mg 6 0 5 false, og 7 (b .gtr (t 6) (k 4096)) 5 false, o 8 (.pick (t 5) (.c (.d (.b true))) (t 7))])
 (.cond (t 8)
 (.seq (.reg [o 2 (.mv (k 0))])
 .ret)
 .skip))
 (.seq (.reg [m 9 0, o 10 (b .add (k 9) (t 9)), m 2 10])
 .ret))), false⟩
def a53 : AFn := ⟨52, [.tmp 2, .tmp 3],
 (.seq (.reg [o 1 (.box 32 (t 0)), o 2 (.mv (.c .nilsl)), o 3 (.mv (k 0))])
 (.seq (.seq (.reg [o 6 (.load true 9 (t 1)), o 7 (.callf 69 [(t 6)]), o 8 (.un .not (t 7))])
 (.cond (t 8)
 (.seq (.reg [o 2 (.mv (.c .nilsl)), o 3 (.mv (k 2))])
 .ret)
 .skip))
 (.seq (.reg [o 9 (.fadd 0 (t 1)), l 10 9, o 11 (.callf 70 [(t 10)]), m 4 11])
 (.seq (.reg [o 12 (.fadd 0 (t 1)), l 13 12, o 14 (.cvi .i64 (t 13)), o 15 (.callf 71 [(.c .nilsl), (t 14)]), m 5 15])
 (.seq (.seq (.reg [m 16 4, o 17 (b .and (t 16) (.c (.d (.i .u8 4)))), o 18 (b .neq (t 17) (.c (.d (.i .u8 0))))])
 (.cond (t 18)
 (.reg [m 19 5, o 20 (.fadd 1 (t 1)), l 21 20, o 22 (.callf 72 [(t 19), (t 21)]), m 5 22])
 .skip))
 (.seq (.seq (.reg [m 23 4, o 24 (b .and (t 23) (.c (.d (.i .u8 8)))), o 25 (b .neq (t 24) (.c (.d (.i .u8 0))))])
 (.cond (t 25)
 (.reg [m 26 5, o 27 (.fadd 2 (t 1)), l 28 27, o 29 (.callf 71 [(t 26), (t 28)]), m 5 29])
 .skip))
 (.seq (.seq (.reg [m 30 4, o 31 (b .and (t 30) (.c (.d (.i .u8 16)))), o 32 (b .neq (t 31) (.c (.d (.i .u8 0))))])
 (.cond (t 32)
 (.reg [m 33 5, o 34 (.fadd 3 (t 1)), o 35 (.load true 4 (t 34)), o 36 (.callf 73 [(t 33), (t 35)]), m 5 36])
 .skip))
 (.seq (.seq (.reg [m 37 4, o 38 (b .and (t 37) (.c (.d (.i .u8 1)))), o 39 (b .neq (t 38) (.c (.d (.i .u8 0))))])
 (.cond (t 39)
 (.reg [m 40 5, o 41 (.fadd 7 (t 1)), l 42 41, o 43 (.callf 74 [(t 40), (t 42)]), m 5 43])
 .skip))
 (.seq (.seq (.reg [m 44 4, o 45 (b .and (t 44) (.c (.d (.i .u8 2)))), o 46 (b .neq (t 45) (.c (.d (.i .u8 0))))])
 (.cond (t 46)
 (.reg [m 47 5, o 48 (.fadd 8 (t 1)), l 49 48, o 50 (.callf 71 [(t 47), (t 49)]), m 5 50])
 .skip))
 (.seq (.reg [m 51 5, m 2 51, o 3 (.mv (k 0))])
 .ret)))))))))), false⟩
def a55 : AFn := ⟨9, [.tmp 4],
 (.seq (.reg [o 2 (.box 54 (t 0)), o 3 (.box 3 (t 1)), o 4 (.mv (.c (.d .nilf)))])
 (.seq (.seq (.reg [l 5 3, o 6 (b .lss (t 5) (k 1))])
 (.cond (t 6)
 (.reg [o 7 (.mkif 9 (.c (.d (.s [99, 97, 110, 110, 111, 116, 32, 98, 101, 32, 108, 101, 115, 115, 32, 116, 104, 97, 110, 32, 49])))), u (.panic (t 7))])
 .skip))
 (.seq (.reg [o 8 (.mkfn (.func 80) [] [(t 2), (t 3)]), m 4 8])
 .ret))), false⟩
def a56 : AFn := ⟨8, [.tmp 2],
 (.seq (.reg [o 2 (.mv (.c .nilsl))])
 (.seq (.seq (.reg [m 3 0, o 4 (.bin .eql .nilS (t 3) (.c .nilsl))])
 (.cond (t 4)
 (.seq (.reg [o 2 (.mv (.c .nilsl))])
 .ret)
 .skip))
 (.seq (.reg [o 5 (.bsl 5 1 0 [(.d (.i .u8 0))] []), m 6 0, o 7 (.app 5 1 1 false (t 5) (t 6)), m 2 7])
 .ret))), false⟩
def a57 : AFn := ⟨6, [.tmp 2],
 (.seq (.reg [o 2 (.mv (.c (.d (.b false))))])
 (.seq (.reg [m 3 0, o 4 (.len 1 (t 3)), o 5 (b .gtr (t 4) (k 4096)), m 2 5])
 .ret)), false⟩
def a58 : AFn := ⟨9, [.tmp 4],
 (.seq (.reg [o 4 (.mv (.c (.d (.b false))))])
 (.seq (.reg [m 5 0, m 6 1, o 7 (.callf 81 [(t 5), (t 6)]), o 8 (b .geq (t 7) (k 0)), m 4 8])
 .ret)), false⟩
def a59 : AFn := ⟨9, [.tmp 2],
 (.seq (.reg [o 2 (.mv (.c (.d (.b false))))])
 (.seq (.reg [m 3 0, o 4 (b .geq (t 3) (.c (.d (.i .u8 1)))), m 5 4, mg 6 0 5 true, og 7 (b .leq (t 6) (.c (.d (.i .u8 2)))) 5 true, o 8 (.pick (t 5) (t 7) (.c (.d (.b false)))), m 2 8])
 .ret)), false⟩
def a60 : AFn := ⟨15, [.tmp 2],
 (.seq (.reg [o 2 (.mv (.c .nilsl))])
 (.seq (.reg [m 3 0, o 4 (.cvi .u8 (t 3)), m 5 0, o 6 (b .shr (t 5) (.c (.d (.i .u64 8)))), o 7 (.cvi .u8 (t 6)), m 8 0, o 9 (b .shr (t 8) (.c (.d (.i .u64 16)))), o 10 (.cvi .u8 (t 9)), m 11 0, o 12 (b .shr (t 11) (.c (.d (.i .u64 24)))), o 13 (.cvi .u8 (t 12)), o 14 (.bsl 5 1 4 [(.d (.i .u8 0))] [(0, 1, (t 4)), (1, 1, (t 7)), (2, 1, (t 10)), (3, 1, (t 13))]), m 2 14])
 .ret)), false⟩
def a61 : AFn := ⟨12, [.tmp 2],
 (.seq (.reg [o 2 (.mv (.c (.d (.i .u32 0))))])
 (.seq (.reg [o 3 (.alloc 94 [(.d (.i .u32 0))]), u (.store 1 (t 3) (.c (.d (.i .u32 0))))])
 (.seq (.seq (.reg [m 5 0, o 6 (.callf 82 [(t 5)])])
 (.blk 0 (.rfun (t 6) [7] (.reg [m 4 7]) (.blk 1 (.reg [l 8 3, m 9 4, o 10 (.callf 83 [(t 8), (t 9)]), u (.store 1 (t 3) (t 10))])))))
 (.seq (.reg [l 11 3, m 2 11])
 .ret)))), false⟩
def a69 : AFn := ⟨76, [.tmp 2],
 (.seq (.reg [o 1 (.box 32 (t 0)), o 2 (.mv (.c (.d (.b false))))])
 (.seq (.reg [o 4 (.fadd 0 (t 1)), l 5 4, o 6 (.callf 70 [(t 5)]), m 3 6])
 (.seq (.dreg 0 [⟨m 7 3, 0, false, [], none⟩, ⟨o 8 (b .neq (t 7) (.c (.d (.i .u8 0)))), 1, false, [], none⟩, ⟨m 9 8, 2, false, [], none⟩, ⟨og 13 (.fadd 7 (t 1)) 9 true, 6, false, [], none⟩, ⟨lg 14 13 9 true, 7, false, [], none⟩, ⟨og 15 (.callf 86 [(t 14)]) 9 true, 8, true, [], none⟩, ⟨mg 10 3 9 true, 3, false, [], none⟩, ⟨og 11 (b .and (t 10) (.c (.d (.i .u8 1)))) 9 true, 4, false, [], none⟩, ⟨og 12 (b .neq (t 11) (.c (.d (.i .u8 0)))) 9 true, 5, false, [], none⟩, ⟨og 16 (.fadd 7 (t 1)) 9 true, 9, false, [], none⟩, ⟨lg 17 16 9 true, 10, false, [], none⟩, ⟨og 18 (.len 1 (t 17)) 9 true, 11, false, [], none⟩, ⟨og 19 (b .eql (t 18) (k 0)) 9 true, 12, false, [], none⟩, ⟨og 20 (.callf 85 [(t 12), (t 15), (t 19)]) 9 true, 13, true, [], none⟩, ⟨o 21 (.pick (t 9) (t 20) (.c (.d (.b false)))), 14, false, [13, 8], none⟩, ⟨m 22 21, 15, false, [13, 8], none⟩, ⟨mg 23 3 22 true, 16, false, [13, 8], none⟩, ⟨og 24 (b .and (t 23) (.c (.d (.i .u8 2)))) 22 true, 17, false, [13, 8], none⟩, ⟨og 25 (b .neq (t 24) (.c (.d (.i .u8 0)))) 22 true, 18, false, [13, 8], none⟩, ⟨og 26 (.fadd 8 (t 1)) 22 true, 19, false, [13, 8], none⟩, ⟨lg 27 26 22 true, 20, false, [13, 8], none⟩, ⟨og 28 (b .geq (t 27) (k 0)) 22 true, 21, false, [13, 8], none⟩, ⟨mg 29 28 22 true, 22, false, [13, 8], none⟩, ⟨og 30 (.fadd 8 (t 1)) 29 true, 23, false, [13, 8], none⟩, ⟨lg 31 30 29 true, 24, false, [13, 8], none⟩, ⟨og 32 (b .leq (t 31) (k 400)) 29 true, 25, false, [13, 8], none⟩, ⟨og 33 (.pick (t 29) (t 32) (.c (.d (.b false)))) 22 true, 26, false, [13, 8], none⟩, ⟨og 34 (.fadd 8 (t 1)) 22 true, 27, false, [13, 8], none⟩, ⟨lg 35 34 22 true, 28, false, [13, 8], none⟩, ⟨og 36 (b .eql (t 35) (k 0)) 22 true, 29, false, [13, 8], none⟩, ⟨og 37 (.callf 85 [(t 25), (t 33), (t 36)]) 22 true, 30, true, [], none⟩, ⟨o 38 (.pick (t 22) (t 37) (.c (.d (.b false)))), 31, false, [30, 13, 8], none⟩, ⟨m 39 38, 32, false, [30, 13, 8], none⟩, ⟨og 43 (.fadd 1 (t 1)) 39 true, 36, false, [30, 13, 8], none⟩, ⟨lg 44 43 39 true, 37, false, [30, 13, 8], none⟩, ⟨og 45 (.callf 87 [(t 44)]) 39 true, 38, true, [], none⟩, ⟨mg 40 3 39 true, 33, false, [30, 13, 8], none⟩, ⟨og 41 (b .and (t 40) (.c (.d (.i .u8 4)))) 39 true, 34, false, [30, 13, 8], none⟩, ⟨og 42 (b .neq (t 41) (.c (.d (.i .u8 0)))) 39 true, 35, false, [30, 13, 8], none⟩, ⟨og 46 (.fadd 1 (t 1)) 39 true, 39, false, [30, 13, 8], none⟩, ⟨lg 47 46 39 true, 40, false, [30, 13, 8], none⟩, ⟨og 48 (b .eql (t 47) (.c (.d (.s [])))) 39 true, 41, false, [30, 13, 8], none⟩, ⟨og 49 (.callf 85 [(t 42), (t 45), (t 48)]) 39 true, 42, true, [], none⟩, ⟨o 50 (.pick (t 39) (t 49) (.c (.d (.b false)))), 43, false, [42, 38, 30, 13, 8], none⟩, ⟨m 51 50, 44, false, [42, 38, 30, 13, 8], none⟩, ⟨mg 52 3 51 true, 45, false, [42, 38, 30, 13, 8], none⟩, ⟨og 53 (b .and (t 52) (.c (.d (.i .u8 8)))) 51 true, 46, false, [42, 38, 30, 13, 8], none⟩, ⟨og 54 (b .neq (t 53) (.c (.d (.i .u8 0)))) 51 true, 47, false, [42, 38, 30, 13, 8], none⟩, ⟨og 55 (.fadd 2 (t 1)) 51 true, 48, false, [42, 38, 30, 13, 8], none⟩, ⟨lg 56 55 51 true, 49, false, [42, 38, 30, 13, 8], none⟩, ⟨og 57 (b .geq (t 56) (k 1)) 51 true, 50, false, [42, 38, 30, 13, 8], none⟩, ⟨og 58 (.fadd 2 (t 1)) 51 true, 51, false, [42, 38, 30, 13, 8], none⟩, ⟨lg 59 58 51 true, 52, false, [42, 38, 30, 13, 8], none⟩, ⟨og 60 (b .eql (t 59) (k 0)) 51 true, 53, false, [42, 38, 30, 13, 8], none⟩, ⟨og 61 (.callf 85 [(t 54), (t 57), (t 60)]) 51 true, 54, true, [], none⟩, ⟨o 62 (.pick (t 51) (t 61) (.c (.d (.b false)))), 55, false, [54, 42, 38, 30, 13, 8], none⟩, ⟨m 63 62, 56, false, [54, 42, 38, 30, 13, 8], none⟩, ⟨og 67 (.fadd 3 (t 1)) 63 true, 60, false, [54, 42, 38, 30, 13, 8], none⟩, ⟨og 68 (.load true 4 (t 67)) 63 true, 61, false, [54, 42, 38, 30, 13, 8], none⟩, ⟨og 69 (.callf 88 [(t 68)]) 63 true, 62, true, [], none⟩, ⟨og 70 (.fadd 3 (t 1)) 63 true, 63, false, [54, 42, 38, 30, 13, 8], none⟩, ⟨og 71 (.load true 4 (t 70)) 63 true, 64, false, [54, 42, 38, 30, 13, 8], none⟩, ⟨og 72 (.build [(.d (.i .u8 0)), (.d (.i .i64 0)), (.d (.s [])), .nilsl] []) 63 true, 65, false, [54, 42, 38, 30, 13, 8], none⟩, ⟨og 73 (.callf 89 [(t 71), (t 72)]) 63 true, 66, true, [], none⟩, ⟨mg 64 3 63 true, 57, false, [54, 42, 38, 30, 13, 8], none⟩, ⟨og 65 (b .and (t 64) (.c (.d (.i .u8 16)))) 63 true, 58, false, [54, 42, 38, 30, 13, 8], none⟩, ⟨og 66 (b .neq (t 65) (.c (.d (.i .u8 0)))) 63 true, 59, false, [54, 42, 38, 30, 13, 8], none⟩, ⟨og 74 (.callf 85 [(t 66), (t 69), (t 73)]) 63 true, 67, true, [], none⟩, ⟨o 75 (.pick (t 63) (t 74) (.c (.d (.b false)))), 68, false, [67, 66, 62, 54, 42, 38, 30, 13, 8], none⟩, ⟨m 2 75, 69, false, [67, 66, 62, 54, 42, 38, 30, 13, 8], none⟩])
 .ret))), false⟩
def a70 : AFn := ⟨9, [.tmp 2],
 (.seq (.reg [o 2 (.mv (.c (.d (.i .u8 0))))])
 (.seq (.seq (.reg [m 3 0, o 4 (.cvi .i64 (t 3)), o 5 (b .geq (t 4) (k 6))])
 (.cond (t 5)
 (.seq (.reg [o 2 (.mv (.c (.d (.i .u8 0))))])
 .ret)
 .skip))
 (.seq (.reg [m 6 0, o 7 (.iaA 6 1 (.c (.glob 0 0)) (t 6)), l 8 7, m 2 8])
 .ret))), false⟩
def a71 : AFn := ⟨10, [.tmp 4],
 (.seq (.reg [o 4 (.mv (.c .nilsl))])
 (.seq (.reg [m 5 0, o 6 (.clone 56 5 1 1 false (t 5)), m 7 1, o 8 (.callf 91 [(t 7)]), o 9 (.callf 90 [(t 6), (t 8)]), m 4 9])
 .ret)), false⟩
def a72 : AFn := ⟨11, [.tmp 4],
 (.seq (.reg [o 4 (.mv (.c .nilsl))])
 (.seq (.reg [m 5 0, m 6 1, o 7 (.len 0 (t 6)), o 8 (.callf 71 [(t 5), (t 7)]), m 9 1, o 10 (.app 5 1 1 false (t 8) (t 9)), m 4 10])
 .ret)), false⟩
def a73 : AFn := ⟨44, [.tmp 4],
 (.seq (.reg [o 3 (.box 29 (t 1)), o 4 (.mv (.c .nilsl))])
 (.seq (.reg [m 8 0, o 9 (.fadd 0 (t 3)), l 10 9, o 11 (.cvi .i64 (t 10)), o 12 (.callf 71 [(t 8), (t 11)]), m 5 12])
 (.seq (.seq (.reg [o 13 (.fadd 0 (t 3)), l 14 13])
 (.blk 0 (.seq (.reg [o 16 (b .eql (t 14) (.c (.d (.i .u8 0)))), m 15 16])
 (.cond (t 15)
 (.seq (.reg [m 17 5, o 18 (.fadd 1 (t 3)), l 19 18, o 20 (.callf 71 [(t 17), (t 19)]), m 4 20])
 .ret)
 (.seq (.reg [o 22 (b .eql (t 14) (.c (.d (.i .u8 1)))), m 21 22])
 (.cond (t 21)
 (.seq (.reg [m 23 5, o 24 (.fadd 2 (t 3)), l 25 24, o 26 (.callf 72 [(t 23), (t 25)]), m 4 26])
 .ret)
 .skip))))))
 (.seq (.reg [m 27 5, o 28 (.fadd 3 (t 3)), l 29 28, o 30 (.len 1 (t 29)), o 31 (.callf 71 [(t 27), (t 30)]), m 5 31])
 (.seq (.seq (.reg [o 32 (.fadd 3 (t 3)), l 33 32, o 34 (.len 1 (t 33)), o 35 (.mv (k 0))])
 (.blk 1 (.loop (.seq (.reg [o 36 (b .lss (t 35) (t 34))])
 (.seq (.cond (t 36)
 .skip
 (.exit 1))
 (.seq (.blk 2 (.seq (.reg [o 37 (.iaS 4 (t 33) (t 35)), o 38 (.load true 4 (t 37)), o 7 (.alloc 29 [(.d (.i .u8 0)), (.d (.i .i64 0)), (.d (.s [])), .nilsl]), u (.store 4 (t 7) (t 38))])
 (.reg [m 39 5, o 40 (.load true 4 (t 7)), o 41 (.callf 73 [(t 39), (t 40)]), m 5 41])))
 (.reg [o 42 (b .add (t 35) (k 1)), m 35 42])))))))
 (.seq (.reg [m 43 5, m 4 43])
 .ret)))))), false⟩
def a74 : AFn := ⟨60, [.tmp 4],
 (.seq (.reg [o 4 (.mv (.c .nilsl))])
 (.seq (.reg [m 10 0, m 11 1, o 12 (.len 1 (t 11)), o 13 (.callf 71 [(t 10), (t 12)]), m 5 13])
 (.seq (.seq (.reg [m 14 1, o 15 (.len 1 (t 14)), o 16 (.mv (k 0))])
 (.blk 0 (.loop (.seq (.reg [o 17 (b .lss (t 16) (t 15))])
 (.seq (.cond (t 17)
 .skip
 (.exit 0))
 (.seq (.blk 1 (.seq (.reg [o 18 (.iaS 6 (t 14) (t 16)), o 19 (.load true 6 (t 18)), o 7 (.alloc 60 [(.d (.s [])), (.d (.i .u8 0)), .nilsl, (.d (.s [])), (.d (.i .i64 0)), (.d (.i .i64 0))]), u (.store 6 (t 7) (t 19))])
 (.seq (.dreg 0 [⟨m 20 5, 0, false, [], none⟩, ⟨o 21 (.fadd 0 (t 7)), 1, false, [], none⟩, ⟨l 22 21, 2, false, [], none⟩, ⟨o 23 (.callf 72 [(t 20), (t 22)]), 3, true, [], none⟩, ⟨o 24 (.fadd 1 (t 7)), 4, false, [], none⟩, ⟨l 25 24, 5, false, [], none⟩, ⟨o 26 (.cvi .i64 (t 25)), 6, false, [], none⟩, ⟨o 27 (.callf 71 [(t 23), (t 26)]), 7, true, [], none⟩, ⟨m 5 27, 8, false, [7, 3], none⟩])
 (.seq (.reg [m 28 5, o 29 (.fadd 2 (t 7)), l 30 29, o 31 (.len 1 (t 30)), o 32 (.callf 71 [(t 28), (t 31)]), m 5 32])
 (.seq (.seq (.reg [o 33 (.fadd 2 (t 7)), l 34 33, o 35 (.len 1 (t 34)), o 36 (.mv (k 0))])
 (.blk 2 (.loop (.seq (.reg [o 37 (b .lss (t 36) (t 35))])
 (.seq (.cond (t 37)
 .skip
 (.exit 2))
 (.seq (.blk 3 (.seq (.reg [o 38 (.iaS 1 (t 34) (t 36)), l 39 38, m 9 39])
 (.reg [m 40 5, m 41 9, o 42 (.callf 72 [(t 40), (t 41)]), m 5 42])))
 (.reg [o 43 (b .add (t 36) (k 1)), m 36 43])))))))
 (.seq (.reg [m 44 5, o 45 (.fadd 5 (t 7)), l 46 45, o 47 (.callf 71 [(t 44), (t 46)]), m 5 47])
 (.seq (.reg [o 48 (.fadd 1 (t 7)), l 49 48, o 50 (b .eql (t 49) (.c (.d (.i .u8 1))))])
 (.cond (t 50)
 (.dreg 0 [⟨m 51 5, 0, false, [], none⟩, ⟨o 52 (.fadd 3 (t 7)), 1, false, [], none⟩, ⟨l 53 52, 2, false, [], none⟩, ⟨o 54 (.callf 72 [(t 51), (t 53)]), 3, true, [], none⟩, ⟨o 55 (.fadd 4 (t 7)), 4, false, [], none⟩, ⟨l 56 55, 5, false, [], none⟩, ⟨o 57 (.callf 71 [(t 54), (t 56)]), 6, true, [], none⟩, ⟨m 5 57, 7, false, [6, 3], none⟩])
 .skip))))))))
 (.reg [o 58 (b .add (t 16) (k 1)), m 16 58])))))))
 (.seq (.reg [m 59 5, m 4 59])
 .ret)))), false⟩
def a80 : AFn := ⟨31, [],
 (.seq (.reg [o 4 (.mv (k 0))])
 (.blk 0 (.loop (.seq (.seq (.reg [m 6 4, l 7 1, o 8 (.len 1 (t 7)), o 9 (b .lss (t 6) (t 8))])
 (.cond (t 9)
 .skip
 (.exit 0)))
 (.seq (.blk 1 (.seq (.dreg 0 [⟨l 13 2, 0, false, [], none⟩, ⟨l 14 1, 1, false, [], none⟩, ⟨m 15 4, 2, false, [], none⟩, ⟨o 16 (.slSl 1 (t 14) (some (t 15)) none none), 3, false, [], none⟩, ⟨o 17 (.len 1 (t 16)), 4, false, [], none⟩, ⟨o 18 (.mn [(t 13), (t 17)]), 5, false, [], none⟩, ⟨m 5 18, 6, false, [], none⟩])
 (.seq (.reg [m 19 0, l 20 1, m 21 4, m 22 4, m 23 5, o 24 (b .add (t 22) (t 23)), m 25 4, m 26 5, o 27 (b .add (t 25) (t 26)), o 28 (.slSl 1 (t 20) (some (t 21)) (some (t 24)) (some (t 27))), o 29 (.callv (t 19) [(t 28)]), o 30 (.un .not (t 29))])
 (.cond (t 30)
 .ret
 .skip))))
 (.reg [m 10 4, l 11 2, o 12 (b .add (t 10) (t 11)), m 4 12])))))), false⟩
def a81 : AFn := ⟨19, [.tmp 4],
 (.seq (.reg [o 4 (.mv (k 0))])
 (.seq (.seq (.reg [m 6 0, o 7 (.len 1 (t 6)), o 8 (.mv (k 0))])
 (.blk 0 (.loop (.seq (.reg [o 9 (b .lss (t 8) (t 7))])
 (.seq (.cond (t 9)
 .skip
 (.exit 0))
 (.seq (.blk 1 (.seq (.reg [m 10 8, m 5 10])
 (.seq (.reg [m 11 1, m 12 0, m 13 5, o 14 (.iaS 1 (t 12) (t 13)), l 15 14, o 16 (.callv (t 11) [(t 15)])])
 (.cond (t 16)
 (.seq (.reg [m 17 5, m 4 17])
 .ret)
 .skip))))
 (.reg [o 18 (b .add (t 8) (k 1)), m 8 18])))))))
 (.seq (.reg [o 4 (.mv (k (-1)))])
 .ret))), false⟩
def a82 : AFn := ⟨4, [.tmp 2],
 (.seq (.reg [o 1 (.box 54 (t 0)), o 2 (.mv (.c (.d .nilf)))])
 (.seq (.reg [o 3 (.mkfn (.func 100) [] [(t 1)]), m 2 3])
 .ret)), false⟩
def a83 : AFn := ⟨10, [.tmp 4],
 (.seq (.reg [o 4 (.mv (.c (.d (.i .u32 0))))])
 (.seq (.reg [m 5 0, o 6 (.un .xor (t 5)), m 7 1, o 8 (.callf 101 [(t 6), (t 7)]), o 9 (.un .xor (t 8)), m 4 9])
 .ret)), false⟩
def a85 : AFn := ⟨10, [.tmp 6],
 (.seq (.reg [o 6 (.mv (.c (.d (.b false))))])
 (.seq (.seq (.reg [m 7 0])
 (.cond (t 7)
 (.seq (.reg [m 8 1, m 6 8])
 .ret)
 .skip))
 (.seq (.reg [m 9 2, m 6 9])
 .ret))), false⟩
def a86 : AFn := ⟨11, [.tmp 2],
 (.seq (.reg [o 2 (.mv (.c (.d (.b false))))])
 (.seq (.reg [m 3 0, o 4 (.len 1 (t 3)), o 5 (b .leq (t 4) (k 40)), m 6 5, mg 7 0 6 true, og 8 (.callf 102 [(t 7), (.c (.d (.fn (.func 103) [] [])))]) 6 true, og 9 (.un .not (t 8)) 6 true, o 10 (.pick (t 6) (t 9) (.c (.d (.b false)))), m 2 10])
 .ret)), false⟩
def a87 : AFn := ⟨18, [.tmp 2],
 (.seq (.reg [o 2 (.mv (.c (.d (.b false))))])
 (.seq (.reg [o 3 (.mv (.c (.d (.fn (.func 105) [] []))))])
 (.seq (.reg [m 4 0, o 5 (.len 0 (t 4)), o 6 (b .geq (t 5) (k 1)), m 7 6, mg 8 0 7 true, og 9 (.len 0 (t 8)) 7 true, og 10 (b .leq (t 9) (k 400)) 7 true, o 11 (.pick (t 7) (t 10) (.c (.d (.b false)))), m 12 11, mg 13 0 12 true, mg 14 3 12 true, og 15 (.callf 106 [(t 13), (t 14)]) 12 true, og 16 (.un .not (t 15)) 12 true, o 17 (.pick (t 12) (t 16) (.c (.d (.b false)))), m 2 17])
 .ret))), false⟩
def a88 : AFn := ⟨7, [.tmp 2],
 (.seq (.reg [o 1 (.box 29 (t 0)), o 2 (.mv (.c (.d (.b false))))])
 (.seq (.reg [o 3 (.build [(.d (.i .i64 0))] [(0, 1, (k 200))]), o 4 (.box 139 (t 3)), o 5 (.load true 4 (t 1)), o 6 (.callf 107 [(t 4), (t 5), (k 6)]), m 2 6])
 .ret)), false⟩
def a89 : AFn := ⟨31, [.tmp 4],
 (.seq (.reg [o 2 (.box 29 (t 0)), o 3 (.box 29 (t 1)), o 4 (.mv (.c (.d (.b false))))])
 (.seq (.reg [o 5 (.fadd 0 (t 2)), l 6 5, o 7 (.fadd 0 (t 3)), l 8 7, o 9 (b .eql (t 6) (t 8)), m 10 9, og 11 (.fadd 1 (t 2)) 10 true, lg 12 11 10 true, og 13 (.fadd 1 (t 3)) 10 true, lg 14 13 10 true, og 15 (b .eql (t 12) (t 14)) 10 true, o 16 (.pick (t 10) (t 15) (.c (.d (.b false)))), m 17 16, og 18 (.fadd 2 (t 2)) 17 true, lg 19 18 17 true, og 20 (.fadd 2 (t 3)) 17 true, lg 21 20 17 true, og 22 (b .eql (t 19) (t 21)) 17 true, o 23 (.pick (t 17) (t 22) (.c (.d (.b false)))), m 24 23, og 25 (.fadd 3 (t 2)) 24 true, lg 26 25 24 true, og 27 (.fadd 3 (t 3)) 24 true, lg 28 27 24 true, og 29 (.callf 108 [(t 26), (t 28), (.c (.d (.fn (.func 89) [] [])))]) 24 true, o 30 (.pick (t 24) (t 29) (.c (.d (.b false)))), m 4 30])
 .ret)), false⟩
def a90 : AFn := ⟨13, [.tmp 4],
 (.seq (.reg [o 2 (.box 54 (t 0)), o 4 (.mv (.c .nilsl))])
 (.seq (.seq (.reg [m 6 1])
 (.blk 0 (.rfun (t 6) [7] (.reg [m 5 7]) (.blk 1 (.reg [l 8 2, m 9 5, o 10 (.bsl 5 1 1 [(.d (.i .u8 0))] [(0, 1, (t 9))]), o 11 (.app 5 1 1 false (t 8) (t 10)), u (.store 1 (t 2) (t 11))])))))
 (.seq (.reg [l 12 2, m 4 12])
 .ret))), true⟩
def a91 : AFn := ⟨4, [.tmp 2],
 (.seq (.reg [o 1 (.box 2 (t 0)), o 2 (.mv (.c (.d .nilf)))])
 (.seq (.reg [o 3 (.mkfn (.func 109) [] [(t 1)]), m 2 3])
 .ret)), false⟩
def a100 : AFn := ⟨16, [],
 (.seq (.reg [l 5 1, o 6 (.len 1 (t 5)), o 7 (.mv (k 0))])
 (.blk 0 (.loop (.seq (.reg [o 8 (b .lss (t 7) (t 6))])
 (.seq (.cond (t 8)
 .skip
 (.exit 0))
 (.seq (.blk 1 (.seq (.reg [o 9 (.iaS 1 (t 5) (t 7)), l 10 9, m 4 10])
 (.seq (.reg [m 11 0, m 12 4, o 13 (.callv (t 11) [(t 12)]), o 14 (.un .not (t 13))])
 (.cond (t 14)
 .ret
 .skip))))
 (.reg [o 15 (b .add (t 7) (k 1)), m 7 15]))))))), false⟩
def a101 : AFn := ⟨13, [.tmp 4],
 (.seq (.reg [o 4 (.mv (.c (.d (.i .u32 0))))])
 (.seq (.reg [m 5 0, o 6 (.cvi .u8 (t 5)), m 7 1, o 8 (b .xor (t 6) (t 7)), o 9 (.callf 117 [(t 8)]), m 10 0, o 11 (b .shr (t 10) (.c (.d (.i .u64 8)))), o 12 (b .xor (t 9) (t 11)), m 4 12])
 .ret)), false⟩
def a102 : AFn := ⟨9, [.tmp 4],
 (.seq (.reg [o 4 (.mv (.c (.d (.b false))))])
 (.seq (.reg [m 5 0, m 6 1, o 7 (.callf 118 [(t 5), (t 6)]), o 8 (b .geq (t 7) (k 0)), m 4 8])
 .ret)), false⟩
def a103 : AFn := ⟨6, [.tmp 2],
 (.seq (.reg [o 1 (.box 60 (t 0)), o 2 (.mv (.c (.d (.b false))))])
 (.seq (.reg [o 3 (.load true 6 (t 1)), o 4 (.callf 104 [(t 3)]), o 5 (.un .not (t 4)), m 2 5])
 .ret)), false⟩
def a104 : AFn := ⟨44, [.tmp 2],
 (.seq (.reg [o 1 (.box 60 (t 0)), o 2 (.mv (.c (.d (.b false))))])
 (.seq (.seq (.reg [o 3 (.fadd 0 (t 1)), l 4 3, o 5 (.callf 115 [(t 4)]), o 6 (.un .not (t 5)), m 7 6, og 8 (.fadd 2 (t 1)) 7 false, lg 9 8 7 false, og 10 (.len 1 (t 9)) 7 false, og 11 (b .gtr (t 10) (k 20)) 7 false, o 12 (.pick (t 7) (.c (.d (.b true))) (t 11)), m 13 12, og 14 (.fadd 5 (t 1)) 13 false, lg 15 14 13 false, og 16 (.callf 119 [(t 15), (k 400)]) 13 false, og 17 (.un .not (t 16)) 13 false, o 18 (.pick (t 13) (.c (.d (.b true))) (t 17))])
 (.cond (t 18)
 (.seq (.reg [o 2 (.mv (.c (.d (.b false))))])
 .ret)
 .skip))
 (.seq (.seq (.reg [o 19 (.fadd 2 (t 1)), l 20 19, o 21 (.callf 120 [(t 20), (.c (.d (.fn (.func 121) [] [])))])])
 (.cond (t 21)
 (.seq (.reg [o 2 (.mv (.c (.d (.b false))))])
 .ret)
 .skip))
 (.seq (.seq (.reg [o 22 (.fadd 1 (t 1)), l 23 22])
 (.blk 0 (.seq (.reg [o 25 (b .eql (t 23) (.c (.d (.i .u8 0)))), m 24 25])
 (.cond (t 24)
 (.seq (.reg [o 26 (.fadd 3 (t 1)), l 27 26, o 28 (b .eql (t 27) (.c (.d (.s [])))), m 29 28, og 30 (.fadd 4 (t 1)) 29 true, lg 31 30 29 true, og 32 (b .eql (t 31) (k 0)) 29 true, o 33 (.pick (t 29) (t 32) (.c (.d (.b false)))), m 2 33])
 .ret)
 (.seq (.reg [o 35 (b .eql (t 23) (.c (.d (.i .u8 1)))), m 34 35])
 (.cond (t 34)
 (.seq (.reg [o 36 (.fadd 3 (t 1)), l 37 36, o 38 (.callf 115 [(t 37)]), m 39 38, og 40 (.fadd 4 (t 1)) 39 true, lg 41 40 39 true, og 42 (.callf 119 [(t 41), (k 40)]) 39 true, o 43 (.pick (t 39) (t 42) (.c (.d (.b false)))), m 2 43])
 .ret)
 .skip))))))
 (.seq (.reg [o 2 (.mv (.c (.d (.b false))))])
 .ret))))), false⟩
def a105 : AFn := ⟨9, [.tmp 2],
 (.seq (.reg [o 2 (.mv (.c (.d (.b false))))])
 (.seq (.reg [m 3 0, o 4 (b .lss (t 3) (.c (.d (.i .i32 33)))), m 5 4, mg 6 0 5 false, og 7 (b .gtr (t 6) (.c (.d (.i .i32 126)))) 5 false, o 8 (.pick (t 5) (.c (.d (.b true))) (t 7)), m 2 8])
 .ret)), false⟩
def a106 : AFn := ⟨9, [.tmp 4],
 (.seq (.reg [o 4 (.mv (.c (.d (.b false))))])
 (.seq (.reg [m 5 0, m 6 1, o 7 (.callf 122 [(t 5), (t 6)]), o 8 (b .geq (t 7) (k 0)), m 4 8])
 .ret)), false⟩
def a107 : AFn := ⟨33, [.tmp 6],
 (.seq (.reg [o 3 (.box 137 (t 0)), o 4 (.box 29 (t 1)), o 5 (.box 3 (t 2)), o 6 (.mv (.c (.d (.b false))))])
 (.seq (.seq (.reg [l 7 3, o 8 (.nilchk (t 7)), o 9 (.fadd 0 (t 8)), l 10 9, o 11 (b .sub (t 10) (k 1)), o 12 (.nilchk (t 7)), o 13 (.fadd 0 (t 12)), u (.store 1 (t 13) (t 11))])
 (.seq (.reg [l 14 3, o 15 (.nilchk (t 14)), o 16 (.fadd 0 (t 15)), l 17 16, o 18 (b .lss (t 17) (k 0)), m 19 18, lg 20 5 19 false, og 21 (b .eql (t 20) (k 0)) 19 false, o 22 (.pick (t 19) (.c (.d (.b true))) (t 21)), m 23 22, og 24 (.load true 4 (t 4)) 23 false, og 25 (.callf 123 [(t 24)]) 23 false, og 26 (.un .not (t 25)) 23 false, o 27 (.pick (t 23) (.c (.d (.b true))) (t 26))])
 (.cond (t 27)
 (.seq (.reg [o 6 (.mv (.c (.d (.b false))))])
 .ret)
 .skip)))
 (.seq (.reg [o 28 (.fadd 3 (t 4)), l 29 28, o 30 (.mkfn (.func 125) [] [(t 3), (t 5)]), o 31 (.callf 124 [(t 29), (t 30)]), o 32 (.un .not (t 31)), m 6 32])
 .ret))), false⟩
def a108 : AFn := ⟨32, [.tmp 6],
 (.seq (.reg [o 6 (.mv (.c (.d (.b false))))])
 (.seq (.seq (.reg [m 10 0, o 11 (.len 1 (t 10)), m 12 1, o 13 (.len 1 (t 12)), o 14 (b .neq (t 11) (t 13))])
 (.cond (t 14)
 (.seq (.reg [o 6 (.mv (.c (.d (.b false))))])
 .ret)
 .skip))
 (.seq (.seq (.reg [m 15 0, o 16 (.len 1 (t 15)), o 17 (.mv (k 0))])
 (.blk 0 (.loop (.seq (.reg [o 18 (b .lss (t 17) (t 16))])
 (.seq (.cond (t 18)
 .skip
 (.exit 0))
 (.seq (.blk 1 (.seq (.reg [m 19 17, o 20 (.iaS 4 (t 15) (t 17)), o 21 (.load true 4 (t 20)), o 8 (.alloc 29 [(.d (.i .u8 0)), (.d (.i .i64 0)), (.d (.s [])), .nilsl]), m 7 19, u (.store 4 (t 8) (t 21))])
 (.seq (.reg [m 22 1, m 23 7, o 24 (.iaS 4 (t 22) (t 23)), o 25 (.load true 4 (t 24)), o 9 (.alloc 29 [(.d (.i .u8 0)), (.d (.i .i64 0)), (.d (.s [])), .nilsl]), u (.store 4 (t 9) (t 25))])
 (.seq (.reg [m 26 2, o 27 (.load true 4 (t 8)), o 28 (.load true 4 (t 9)), o 29 (.callv (t 26) [(t 27), (t 28)]), o 30 (.un .not (t 29))])
 (.cond (t 30)
 (.seq (.reg [o 6 (.mv (.c (.d (.b false))))])
 .ret)
 .skip)))))
 (.reg [o 31 (b .add (t 17) (k 1)), m 17 31])))))))
 (.seq (.reg [o 6 (.mv (.c (.d (.b true))))])
 .ret)))), false⟩
def a109 : AFn := ⟨20, [],
 (.seq (.reg [l 4 1, o 5 (.callf 110 [(t 4)]), m 3 5])
 (.seq (.blk 0 (.loop (.seq (.seq (.reg [m 6 3, o 7 (b .geq (t 6) (.c (.d (.i .u64 128))))])
 (.cond (t 7)
 .skip
 (.exit 0)))
 (.seq (.blk 1 (.seq (.reg [m 10 0, m 11 3, o 12 (.cvi .u8 (t 11)), o 13 (b .or (t 12) (.c (.d (.i .u8 128)))), o 14 (.callv (t 10) [(t 13)]), o 15 (.un .not (t 14))])
 (.cond (t 15)
 .ret
 .skip)))
 (.reg [m 8 3, o 9 (b .shr (t 8) (.c (.d (.i .u64 7)))), m 3 9])))))
 (.reg [m 16 0, m 17 3, o 18 (.cvi .u8 (t 17)), o 19 (.callv (t 16) [(t 18)])]))), false⟩
def a110 : AFn := ⟨10, [.tmp 2],
 (.seq (.reg [o 2 (.mv (.c (.d (.i .u64 0))))])
 (.seq (.reg [m 3 0, o 4 (.cvi .u64 (t 3)), o 5 (b .shl (t 4) (.c (.d (.i .u64 1)))), m 6 0, o 7 (b .shr (t 6) (.c (.d (.i .u64 63)))), o 8 (.cvi .u64 (t 7)), o 9 (b .xor (t 5) (t 8)), m 2 9])
 .ret)), false⟩
def a115 : AFn := ⟨16, [.tmp 2],
 (.seq (.reg [o 2 (.mv (.c (.d (.b false))))])
 (.seq (.reg [m 3 0, o 4 (.len 0 (t 3)), o 5 (b .geq (t 4) (k 1)), m 6 5, mg 7 0 6 true, og 8 (.len 0 (t 7)) 6 true, og 9 (b .leq (t 8) (k 20)) 6 true, o 10 (.pick (t 6) (t 9) (.c (.d (.b false)))), m 11 10, mg 12 0 11 true, og 13 (.callf 127 [(t 12), (.c (.d (.s [97, 98, 99, 100, 101, 102, 103, 104, 105, 106, 107, 108, 109, 110, 111, 112, 113, 114, 115, 116, 117, 118, 119, 120, 121, 122, 48, 49, 50, 51, 52, 53, 54, 55, 56, 57, 95])))]) 11 true, og 14 (b .eql (t 13) (.c (.d (.s [])))) 11 true, o 15 (.pick (t 11) (t 14) (.c (.d (.b false)))), m 2 15])
 .ret)), false⟩
def a117 : AFn := ⟨7, [.tmp 2],
 (.seq (.reg [o 2 (.mv (.c (.d (.i .u32 0))))])
 (.seq (.reg [o 3 (.callf 129 [(k 8), (.c (.d (.fn (.func 130) [] [])))]), m 4 0, o 5 (.cvi .u32 (t 4)), o 6 (.callv (t 3) [(t 5)]), m 2 6])
 .ret)), false⟩
def a118 : AFn := ⟨19, [.tmp 4],
 (.seq (.reg [o 4 (.mv (k 0))])
 (.seq (.seq (.reg [m 6 0, o 7 (.len 1 (t 6)), o 8 (.mv (k 0))])
 (.blk 0 (.loop (.seq (.reg [o 9 (b .lss (t 8) (t 7))])
 (.seq (.cond (t 9)
 .skip
 (.exit 0))
 (.seq (.blk 1 (.seq (.reg [m 10 8, m 5 10])
 (.seq (.reg [m 11 1, m 12 0, m 13 5, o 14 (.iaS 6 (t 12) (t 13)), o 15 (.load true 6 (t 14)), o 16 (.callv (t 11) [(t 15)])])
 (.cond (t 16)
 (.seq (.reg [m 17 5, m 4 17])
 .ret)
 .skip))))
 (.reg [o 18 (b .add (t 8) (k 1)), m 8 18])))))))
 (.seq (.reg [o 4 (.mv (k (-1)))])
 .ret))), false⟩
def a119 : AFn := ⟨12, [.tmp 4],
 (.seq (.reg [o 4 (.mv (.c (.d (.b false))))])
 (.seq (.reg [m 5 0, o 6 (b .geq (t 5) (k 0)), m 7 6, mg 8 0 7 true, mg 9 1 7 true, og 10 (b .leq (t 8) (t 9)) 7 true, o 11 (.pick (t 7) (t 10) (.c (.d (.b false)))), m 4 11])
 .ret)), false⟩
def a120 : AFn := ⟨9, [.tmp 4],
 (.seq (.reg [o 4 (.mv (.c (.d (.b false))))])
 (.seq (.reg [m 5 0, m 6 1, o 7 (.callf 131 [(t 5), (t 6)]), o 8 (b .geq (t 7) (k 0)), m 4 8])
 .ret)), false⟩
def a121 : AFn := ⟨6, [.tmp 2],
 (.seq (.reg [o 2 (.mv (.c (.d (.b false))))])
 (.seq (.reg [m 3 0, o 4 (.callf 115 [(t 3)]), o 5 (.un .not (t 4)), m 2 5])
 .ret)), false⟩
def a122 : AFn := ⟨8, [.tmp 4],
 (.seq (.reg [o 4 (.mv (k 0))])
 (.seq (.reg [m 5 0, m 6 1, o 7 (.callf 132 [(t 5), (t 6), (.c (.d (.b true)))]), m 4 7])
 .ret)), false⟩
def a123 : AFn := ⟨49, [.tmp 2],
 (.seq (.reg [o 1 (.box 29 (t 0)), o 2 (.mv (.c (.d (.b false))))])
 (.seq (.seq (.reg [o 3 (.fadd 0 (t 1)), l 4 3])
 (.blk 0 (.seq (.reg [o 6 (b .eql (t 4) (.c (.d (.i .u8 0)))), m 5 6])
 (.cond (t 5)
 (.seq (.reg [o 7 (.fadd 2 (t 1)), l 8 7, o 9 (b .eql (t 8) (.c (.d (.s [])))), m 10 9, og 11 (.fadd 3 (t 1)) 10 true, lg 12 11 10 true, og 13 (.len 1 (t 12)) 10 true, og 14 (b .eql (t 13) (k 0)) 10 true, o 15 (.pick (t 10) (t 14) (.c (.d (.b false)))), m 2 15])
 .ret)
 (.seq (.reg [o 17 (b .eql (t 4) (.c (.d (.i .u8 1)))), m 16 17])
 (.cond (t 16)
 (.seq (.reg [o 18 (.fadd 1 (t 1)), l 19 18, o 20 (b .eql (t 19) (k 0)), m 21 20, og 22 (.fadd 3 (t 1)) 21 true, lg 23 22 21 true, og 24 (.len 1 (t 23)) 21 true, og 25 (b .eql (t 24) (k 0)) 21 true, o 26 (.pick (t 21) (t 25) (.c (.d (.b false)))), m 27 26, og 28 (.fadd 2 (t 1)) 27 true, lg 29 28 27 true, og 30 (.len 0 (t 29)) 27 true, og 31 (b .leq (t 30) (k 100)) 27 true, o 32 (.pick (t 27) (t 31) (.c (.d (.b false)))), m 2 32])
 .ret)
 (.seq (.reg [o 34 (b .eql (t 4) (.c (.d (.i .u8 2)))), m 33 34])
 (.cond (t 33)
 (.seq (.reg [o 35 (.fadd 1 (t 1)), l 36 35, o 37 (b .eql (t 36) (k 0)), m 38 37, og 39 (.fadd 2 (t 1)) 38 true, lg 40 39 38 true, og 41 (b .eql (t 40) (.c (.d (.s [])))) 38 true, o 42 (.pick (t 38) (t 41) (.c (.d (.b false)))), m 43 42, og 44 (.fadd 3 (t 1)) 43 true, lg 45 44 43 true, og 46 (.len 1 (t 45)) 43 true, og 47 (b .leq (t 46) (k 40)) 43 true, o 48 (.pick (t 43) (t 47) (.c (.d (.b false)))), m 2 48])
 .ret)
 .skip))))))))
 (.seq (.reg [o 2 (.mv (.c (.d (.b false))))])
 .ret))), false⟩
def a124 : AFn := ⟨9, [.tmp 4],
 (.seq (.reg [o 4 (.mv (.c (.d (.b false))))])
 (.seq (.reg [m 5 0, m 6 1, o 7 (.callf 133 [(t 5), (t 6)]), o 8 (b .geq (t 7) (k 0)), m 4 8])
 .ret)), false⟩
def a125 : AFn := ⟨11, [.tmp 4],
 (.seq (.reg [o 3 (.box 29 (t 0)), o 4 (.mv (.c (.d (.b false))))])
 (.seq (.reg [l 5 1, o 6 (.load true 4 (t 3)), l 7 2, o 8 (b .sub (t 7) (k 1)), o 9 (.callf 107 [(t 5), (t 6), (t 8)]), o 10 (.un .not (t 9)), m 4 10])
 .ret)), false⟩
def a127 : AFn := ⟨43, [.tmp 4],
 (.seq (.reg [o 4 (.mv (.c (.d (.s []))))])
 (.seq (.seq (.reg [m 7 0, o 8 (b .eql (t 7) (.c (.d (.s [])))), m 9 8, mg 10 1 9 false, og 11 (b .eql (t 10) (.c (.d (.s [])))) 9 false, o 12 (.pick (t 9) (.c (.d (.b true))) (t 11))])
 (.cond (t 12)
 (.seq (.reg [m 13 0, m 4 13])
 .ret)
 .skip))
 (.seq (.seq (.reg [m 14 1, o 15 (.len 0 (t 14)), o 16 (b .eql (t 15) (k 1)), m 17 16, mg 18 1 17 true, og 19 (.ixS (t 18) (k 0)) 17 true, og 20 (b .lss (t 19) (.c (.d (.i .u8 128)))) 17 true, o 21 (.pick (t 17) (t 20) (.c (.d (.b false))))])
 (.cond (t 21)
 (.seq (.dreg 0 [⟨m 22 0, 0, false, [], none⟩, ⟨m 23 1, 1, false, [], none⟩, ⟨o 24 (.ixS (t 23) (k 0)), 2, false, [], none⟩, ⟨o 25 (.callf 135 [(t 22), (t 24)]), 3, true, [], none⟩, ⟨m 26 1, 4, false, [], none⟩, ⟨o 27 (.ixS (t 26) (k 0)), 5, false, [], none⟩, ⟨o 28 (.callf 134 [(t 25), (t 27)]), 6, true, [], none⟩, ⟨m 4 28, 7, false, [6, 3], none⟩])
 .ret)
 .skip))
 (.seq (.seq (.reg [m 30 1, o 31 (.callf 136 [(t 30)]), m 29 31, o 32 (.extr (t 29) 0), o 33 (.extr (t 29) 1), o 5 (.alloc 163 [(.d (.b false)), (.d (.b false)), (.d (.b false)), (.d (.b false)), (.d (.b false)), (.d (.b false)), (.d (.b false)), (.d (.b false)), (.d (.b false)), (.d (.b false)), (.d (.b false)), (.d (.b false)), (.d (.b false)), (.d (.b false)), (.d (.b false)), (.d (.b false)), (.d (.b false)), (.d (.b false)), (.d (.b false)), (.d (.b false)), (.d (.b false)), (.d (.b false)), (.d (.b false)), (.d (.b false)), (.d (.b false)), (.d (.b false)), (.d (.b false)), (.d (.b false)), (.d (.b false)), (.d (.b false)), (.d (.b false)), (.d (.b false)), (.d (.b false)), (.d (.b false)), (.d (.b false)), (.d (.b false)), (.d (.b false)), (.d (.b false)), (.d (.b false)), (.d (.b false)), (.d (.b false)), (.d (.b false)), (.d (.b false)), (.d (.b false)), (.d (.b false)), (.d (.b false)), (.d (.b false)), (.d (.b false)), (.d (.b false)), (.d (.b false)), (.d (.b false)), (.d (.b false)), (.d (.b false)), (.d (.b false)), (.d (.b false)), (.d (.b false)), (.d (.b false)), (.d (.b false)), (.d (.b false)), (.d (.b false)), (.d (.b false)), (.d (.b false)), (.d (.b false)), (.d (.b false)), (.d (.b false)), (.d (.b false)), (.d (.b false)), (.d (.b false)), (.d (.b false)), (.d (.b false)), (.d (.b false)), (.d (.b false)), (.d (.b false)), (.d (.b false)), (.d (.b false)), (.d (.b false)), (.d (.b false)), (.d (.b false)), (.d (.b false)), (.d (.b false)), (.d (.b false)), (.d (.b false)), (.d (.b false)), (.d (.b false)), (.d (.b false)), (.d (.b false)), (.d (.b false)), (.d (.b false)), (.d (.b false)), (.d (.b false)), (.d (.b false)), (.d (.b false)), (.d (.b false)), (.d (.b false)), (.d (.b false)), (.d (.b false)), (.d (.b false)), (.d (.b false)), (.d (.b false)), (.d (.b false)), (.d (.b false)), (.d (.b false)), (.d (.b false)), (.d (.b false)), (.d (.b false)), (.d (.b false)), (.d (.b false)), (.d (.b false)), (.d (.b false)), (.d (.b false)), (.d (.b false)), (.d (.b false)), (.d (.b false)), (.d (.b false)), (.d (.b false)), (.d (.b false)), (.d (.b false)), (.d (.b false)), (.d (.b false)), (.d (.b false)), (.d (.b false)), (.d (.b false)), (.d (.b false)), (.d (.b false)), (.d (.b false)), (.d (.b false)), (.d (.b false)), (.d (.b false)), (.d (.b false)), (.d (.b false)), (.d (.b false)), (.d (.b false)), (.d (.b false)), (.d (.b false)), (.d (.b false)), (.d (.b false)), (.d (.b false)), (.d (.b false)), (.d (.b false)), (.d (.b false)), (.d (.b false)), (.d (.b false)), (.d (.b false)), (.d (.b false)), (.d (.b false)), (.d (.b false)), (.d (.b false)), (.d (.b false)), (.d (.b false)), (.d (.b false)), (.d (.b false)), (.d (.b false)), (.d (.b false)), (.d (.b false)), (.d (.b false)), (.d (.b false)), (.d (.b false)), (.d (.b false)), (.d (.b false)), (.d (.b false)), (.d (.b false)), (.d (.b false)), (.d (.b false)), (.d (.b false)), (.d (.b false)), (.d (.b false)), (.d (.b false)), (.d (.b false)), (.d (.b false)), (.d (.b false)), (.d (.b false)), (.d (.b false)), (.d (.b false)), (.d (.b false)), (.d (.b false)), (.d (.b false)), (.d (.b false)), (.d (.b false)), (.d (.b false)), (.d (.b false)), (.d (.b false)), (.d (.b false)), (.d (.b false)), (.d (.b false)), (.d (.b false)), (.d (.b false)), (.d (.b false)), (.d (.b false)), (.d (.b false)), (.d (.b false)), (.d (.b false)), (.d (.b false)), (.d (.b false)), (.d (.b false)), (.d (.b false)), (.d (.b false)), (.d (.b false)), (.d (.b false)), (.d (.b false)), (.d (.b false)), (.d (.b false)), (.d (.b false)), (.d (.b false)), (.d (.b false)), (.d (.b false)), (.d (.b false)), (.d (.b false)), (.d (.b false)), (.d (.b false)), (.d (.b false)), (.d (.b false)), (.d (.b false)), (.d (.b false)), (.d (.b false)), (.d (.b false)), (.d (.b false)), (.d (.b false)), (.d (.b false)), (.d (.b false)), (.d (.b false)), (.d (.b false)), (.d (.b false)), (.d (.b false)), (.d (.b false)), (.d (.b false)), (.d (.b false)), (.d (.b false)), (.d (.b false)), (.d (.b false)), (.d (.b false)), (.d (.b false)), (.d (.b false)), (.d (.b false)), (.d (.b false)), (.d (.b false)), (.d (.b false)), (.d (.b false)), (.d (.b false)), (.d (.b false)), (.d (.b false)), (.d (.b false)), (.d (.b false)), (.d (.b false)), (.d (.b false)), (.d (.b false)), (.d (.b false)), (.d (.b false)), (.d (.b false)), (.d (.b false)), (.d (.b false)), (.d (.b false)), (.d (.b false)), (.d (.b false)), (.d (.b false)), (.d (.b false)), (.d (.b false))]), u (.store 256 (t 5) (t 32)), m 6 33])
 (.seq (.reg [m 34 6])
 (.cond (t 34)
 (.seq (.reg [m 35 0, o 36 (.callf 138 [(t 35), (t 5)]), o 37 (.callf 137 [(t 36), (t 5)]), m 4 37])
 .ret)
 .skip)))
 (.seq (.reg [m 38 0, m 39 1, o 40 (.callf 140 [(t 38), (t 39)]), m 41 1, o 42 (.callf 139 [(t 40), (t 41)]), m 4 42])
 .ret))))), false⟩
def a129 : AFn := ⟨6, [.tmp 4],
 (.seq (.reg [o 2 (.box 3 (t 0)), o 3 (.box 156 (t 1)), o 4 (.mv (.c (.d .nilf)))])
 (.seq (.reg [o 5 (.mkfn (.func 141) [] [(t 2), (t 3)]), m 4 5])
 .ret)), false⟩
def a130 : AFn := ⟨11, [.tmp 2],
 (.seq (.reg [o 2 (.mv (.c (.d (.i .u32 0))))])
 (.seq (.seq (.reg [m 3 0, o 4 (b .and (t 3) (.c (.d (.i .u32 1)))), o 5 (b .eql (t 4) (.c (.d (.i .u32 1))))])
 (.cond (t 5)
 (.seq (.reg [m 6 0, o 7 (b .shr (t 6) (.c (.d (.i .u64 1)))), o 8 (b .xor (t 7) (.c (.d (.i .u32 3988292384)))), m 2 8])
 .ret)
 .skip))
 (.seq (.reg [m 9 0, o 10 (b .shr (t 9) (.c (.d (.i .u64 1)))), m 2 10])
 .ret))), false⟩
def a131 : AFn := ⟨19, [.tmp 4],
 (.seq (.reg [o 4 (.mv (k 0))])
 (.seq (.seq (.reg [m 6 0, o 7 (.len 1 (t 6)), o 8 (.mv (k 0))])
 (.blk 0 (.loop (.seq (.reg [o 9 (b .lss (t 8) (t 7))])
 (.seq (.cond (t 9)
 .skip
 (.exit 0))
 (.seq (.blk 1 (.seq (.reg [m 10 8, m 5 10])
 (.seq (.reg [m 11 1, m 12 0, m 13 5, o 14 (.iaS 1 (t 12) (t 13)), l 15 14, o 16 (.callv (t 11) [(t 15)])])
 (.cond (t 16)
 (.seq (.reg [m 17 5, m 4 17])
 .ret)
 .skip))))
 (.reg [o 18 (b .add (t 8) (k 1)), m 8 18])))))))
 (.seq (.reg [o 4 (.mv (k (-1)))])
 .ret))), false⟩
def a132 : AFn := ⟨21, [.tmp 6],
 (.seq (.reg [o 6 (.mv (k 0))])
 (.seq (.seq (.reg [m 9 0, o 10 (.rng true (t 9))])
 (.blk 0 (.loop (.seq (.reg [o 11 (.nxt true (t 10)), o 12 (.extr (t 11) 0)])
 (.seq (.cond (t 12)
 .skip
 (.exit 0))
 (.blk 1 (.seq (.reg [o 13 (.extr (t 11) 1), o 14 (.extr (t 11) 2), m 7 13, m 8 14])
 (.seq (.reg [m 15 1, m 16 8, o 17 (.callv (t 15) [(t 16)]), m 18 2, o 19 (.bin .eql .bool (t 17) (t 18))])
 (.cond (t 19)
 (.seq (.reg [m 20 7, m 6 20])
 .ret)
 .skip)))))))))
 (.seq (.reg [o 6 (.mv (k (-1)))])
 .ret))), false⟩
def a133 : AFn := ⟨19, [.tmp 4],
 (.seq (.reg [o 4 (.mv (k 0))])
 (.seq (.seq (.reg [m 6 0, o 7 (.len 1 (t 6)), o 8 (.mv (k 0))])
 (.blk 0 (.loop (.seq (.reg [o 9 (b .lss (t 8) (t 7))])
 (.seq (.cond (t 9)
 .skip
 (.exit 0))
 (.seq (.blk 1 (.seq (.reg [m 10 8, m 5 10])
 (.seq (.reg [m 11 1, m 12 0, m 13 5, o 14 (.iaS 4 (t 12) (t 13)), o 15 (.load true 4 (t 14)), o 16 (.callv (t 11) [(t 15)])])
 (.cond (t 16)
 (.seq (.reg [m 17 5, m 4 17])
 .ret)
 .skip))))
 (.reg [o 18 (b .add (t 8) (k 1)), m 8 18])))))))
 (.seq (.reg [o 4 (.mv (k (-1)))])
 .ret))), false⟩
def a136 : AFn := ⟨21, [.cell 2 true 256, .tmp 3],
 (.seq (.reg [o 2 (.alloc 163 [(.d (.b false)), (.d (.b false)), (.d (.b false)), (.d (.b false)), (.d (.b false)), (.d (.b false)), (.d (.b false)), (.d (.b false)), (.d (.b false)), (.d (.b false)), (.d (.b false)), (.d (.b false)), (.d (.b false)), (.d (.b false)), (.d (.b false)), (.d (.b false)), (.d (.b false)), (.d (.b false)), (.d (.b false)), (.d (.b false)), (.d (.b false)), (.d (.b false)), (.d (.b false)), (.d (.b false)), (.d (.b false)), (.d (.b false)), (.d (.b false)), (.d (.b false)), (.d (.b false)), (.d (.b false)), (.d (.b false)), (.d (.b false)), (.d (.b false)), (.d (.b false)), (.d (.b false)), (.d (.b false)), (.d (.b false)), (.d (.b false)), (.d (.b false)), (.d (.b false)), (.d (.b false)), (.d (.b false)), (.d (.b false)), (.d (.b false)), (.d (.b false)), (.d (.b false)), (.d (.b false)), (.d (.b false)), (.d (.b false)), (.d (.b false)), (.d (.b false)), (.d (.b false)), (.d (.b false)), (.d (.b false)), (.d (.b false)), (.d (.b false)), (.d (.b false)), (.d (.b false)), (.d (.b false)), (.d (.b false)), (.d (.b false)), (.d (.b false)), (.d (.b false)), (.d (.b false)), (.d (.b false)), (.d (.b false)), (.d (.b false)), (.d (.b false)), (.d (.b false)), (.d (.b false)), (.d (.b false)), (.d (.b false)), (.d (.b false)), (.d (.b false)), (.d (.b false)), (.d (.b false)), (.d (.b false)), (.d (.b false)), (.d (.b false)), (.d (.b false)), (.d (.b false)), (.d (.b false)), (.d (.b false)), (.d (.b false)), (.d (.b false)), (.d (.b false)), (.d (.b false)), (.d (.b false)), (.d (.b false)), (.d (.b false)), (.d (.b false)), (.d (.b false)), (.d (.b false)), (.d (.b false)), (.d (.b false)), (.d (.b false)), (.d (.b false)), (.d (.b false)), (.d (.b false)), (.d (.b false)), (.d (.b false)), (.d (.b false)), (.d (.b false)), (.d (.b false)), (.d (.b false)), (.d (.b false)), (.d (.b false)), (.d (.b false)), (.d (.b false)), (.d (.b false)), (.d (.b false)), (.d (.b false)), (.d (.b false)), (.d (.b false)), (.d (.b false)), (.d (.b false)), (.d (.b false)), (.d (.b false)), (.d (.b false)), (.d (.b false)), (.d (.b false)), (.d (.b false)), (.d (.b false)), (.d (.b false)), (.d (.b false)), (.d (.b false)), (.d (.b false)), (.d (.b false)), (.d (.b false)), (.d (.b false)), (.d (.b false)), (.d (.b false)), (.d (.b false)), (.d (.b false)), (.d (.b false)), (.d (.b false)), (.d (.b false)), (.d (.b false)), (.d (.b false)), (.d (.b false)), (.d (.b false)), (.d (.b false)), (.d (.b false)), (.d (.b false)), (.d (.b false)), (.d (.b false)), (.d (.b false)), (.d (.b false)), (.d (.b false)), (.d (.b false)), (.d (.b false)), (.d (.b false)), (.d (.b false)), (.d (.b false)), (.d (.b false)), (.d (.b false)), (.d (.b false)), (.d (.b false)), (.d (.b false)), (.d (.b false)), (.d (.b false)), (.d (.b false)), (.d (.b false)), (.d (.b false)), (.d (.b false)), (.d (.b false)), (.d (.b false)), (.d (.b false)), (.d (.b false)), (.d (.b false)), (.d (.b false)), (.d (.b false)), (.d (.b false)), (.d (.b false)), (.d (.b false)), (.d (.b false)), (.d (.b false)), (.d (.b false)), (.d (.b false)), (.d (.b false)), (.d (.b false)), (.d (.b false)), (.d (.b false)), (.d (.b false)), (.d (.b false)), (.d (.b false)), (.d (.b false)), (.d (.b false)), (.d (.b false)), (.d (.b false)), (.d (.b false)), (.d (.b false)), (.d (.b false)), (.d (.b false)), (.d (.b false)), (.d (.b false)), (.d (.b false)), (.d (.b false)), (.d (.b false)), (.d (.b false)), (.d (.b false)), (.d (.b false)), (.d (.b false)), (.d (.b false)), (.d (.b false)), (.d (.b false)), (.d (.b false)), (.d (.b false)), (.d (.b false)), (.d (.b false)), (.d (.b false)), (.d (.b false)), (.d (.b false)), (.d (.b false)), (.d (.b false)), (.d (.b false)), (.d (.b false)), (.d (.b false)), (.d (.b false)), (.d (.b false)), (.d (.b false)), (.d (.b false)), (.d (.b false)), (.d (.b false)), (.d (.b false)), (.d (.b false)), (.d (.b false)), (.d (.b false)), (.d (.b false)), (.d (.b false)), (.d (.b false)), (.d (.b false)), (.d (.b false)), (.d (.b false)), (.d (.b false)), (.d (.b false)), (.d (.b false)), (.d (.b false)), (.d (.b false)), (.d (.b false)), (.d (.b false)), (.d (.b false)), (.d (.b false)), (.d (.b false)), (.d (.b false)), (.d (.b false)), (.d (.b false)), (.d (.b false)), (.d (.b false)), (.d (.b false)), (.d (.b false)), (.d (.b false)), (.d (.b false)), (.d (.b false)), (.d (.b false)), (.d (.b false))]), o 3 (.mv (.c (.d (.b false))))])
 (.seq (.seq (.reg [o 4 (.mv (k 0))])
 (.blk 0 (.loop (.seq (.seq (.reg [m 6 4, m 7 0, o 8 (.len 0 (t 7)), o 9 (b .lss (t 6) (t 8))])
 (.cond (t 9)
 .skip
 (.exit 0)))
 (.seq (.blk 1 (.seq (.reg [m 12 0, m 13 4, o 14 (.ixS (t 12) (t 13)), m 5 14])
 (.seq (.seq (.reg [m 15 5, o 16 (b .geq (t 15) (.c (.d (.i .u8 128))))])
 (.cond (t 16)
 (.seq (.reg [o 17 (.load true 256 (t 2)), u (.store 256 (t 2) (t 17)), o 3 (.mv (.c (.d (.b false))))])
 .ret)
 .skip))
 (.reg [m 18 5, o 19 (.iaA 256 1 (t 2) (t 18)), u (.store 1 (t 19) (.c (.d (.b true))))]))))
 (.reg [m 10 4, o 11 (b .add (t 10) (k 1)), m 4 11]))))))
 (.seq (.reg [o 20 (.load true 256 (t 2)), u (.store 256 (t 2) (t 20)), o 3 (.mv (.c (.d (.b true))))])
 .ret))), false⟩
def a137 : AFn := ⟨16, [.tmp 4],
 (.seq (.reg [o 4 (.mv (.c (.d (.s []))))])
 (.seq (.blk 0 (.loop (.seq (.seq (.reg [m 5 0, o 6 (.len 0 (t 5)), o 7 (b .gtr (t 6) (k 0))])
 (.cond (t 7)
 .skip
 (.exit 0)))
 (.blk 1 (.seq (.seq (.reg [m 8 1, m 9 0, o 10 (.ixS (t 9) (k 0)), o 11 (.callf 142 [(t 8), (t 10)]), o 12 (.un .not (t 11))])
 (.cond (t 12)
 (.exit 0)
 .skip))
 (.reg [m 13 0, o 14 (.slStr (t 13) (some (k 1)) none), m 0 14]))))))
 (.seq (.reg [m 15 0, m 4 15])
 .ret))), false⟩
def a138 : AFn := ⟨22, [.tmp 4],
 (.seq (.reg [o 4 (.mv (.c (.d (.s []))))])
 (.seq (.blk 0 (.loop (.seq (.seq (.reg [m 5 0, o 6 (.len 0 (t 5)), o 7 (b .gtr (t 6) (k 0))])
 (.cond (t 7)
 .skip
 (.exit 0)))
 (.blk 1 (.seq (.seq (.reg [m 8 1, m 9 0, m 10 0, o 11 (.len 0 (t 10)), o 12 (b .sub (t 11) (k 1)), o 13 (.ixS (t 9) (t 12)), o 14 (.callf 142 [(t 8), (t 13)]), o 15 (.un .not (t 14))])
 (.cond (t 15)
 (.exit 0)
 .skip))
 (.reg [m 16 0, m 17 0, o 18 (.len 0 (t 17)), o 19 (b .sub (t 18) (k 1)), o 20 (.slStr (t 16) none (some (t 19))), m 0 20]))))))
 (.seq (.reg [m 21 0, m 4 21])
 .ret))), false⟩
def a141 : AFn := ⟨13, [.tmp 4],
 (.seq (.reg [o 4 (.mv (.c (.d (.i .u32 0))))])
 (.seq (.seq (.reg [l 5 1, o 6 (.mv (k 0))])
 (.blk 0 (.loop (.seq (.reg [o 7 (b .lss (t 6) (t 5))])
 (.seq (.cond (t 7)
 .skip
 (.exit 0))
 (.seq (.blk 1 (.reg [l 8 2, m 9 0, o 10 (.callv (t 8) [(t 9)]), m 0 10]))
 (.reg [o 11 (b .add (t 6) (k 1)), m 6 11])))))))
 (.seq (.reg [m 12 0, m 4 12])
 .ret))), false⟩
def a142 : AFn := ⟨10, [.tmp 4],
 (.seq (.reg [o 4 (.mv (.c (.d (.b false))))])
 (.seq (.reg [m 5 0, m 6 1, o 7 (.nilchk (t 5)), o 8 (.iaA 256 1 (t 7) (t 6)), l 9 8, m 4 9])
 .ret)), false⟩
def fnT : FT := (.node 85 a85 (.node 41 a41 (.node 22 a22 (.node 16 a16 (.node 7 a7 (.node 6 a6 (.node 4 a4 .leaf .leaf) .leaf) (.node 8 a8 .leaf .leaf)) (.node 20 a20 (.node 19 a19 (.node 17 a17 .leaf .leaf) .leaf) (.node 21 a21 .leaf .leaf))) (.node 36 a36 (.node 34 a34 (.node 24 a24 (.node 23 a23 .leaf .leaf) .leaf) (.node 35 a35 .leaf .leaf)) (.node 39 a39 (.node 38 a38 (.node 37 a37 .leaf .leaf) .leaf) (.node 40 a40 .leaf .leaf)))) (.node 70 a70 (.node 58 a58 (.node 56 a56 (.node 55 a55 (.node 53 a53 .leaf .leaf) .leaf) (.node 57 a57 .leaf .leaf)) (.node 61 a61 (.node 60 a60 (.node 59 a59 .leaf .leaf) .leaf) (.node 69 a69 .leaf .leaf))) (.node 80 a80 (.node 73 a73 (.node 72 a72 (.node 71 a71 .leaf .leaf) .leaf) (.node 74 a74 .leaf .leaf)) (.node 82 a82 (.node 81 a81 .leaf .leaf) (.node 83 a83 .leaf .leaf))))) (.node 118 a118 (.node 103 a103 (.node 90 a90 (.node 88 a88 (.node 87 a87 (.node 86 a86 .leaf .leaf) .leaf) (.node 89 a89 .leaf .leaf)) (.node 101 a101 (.node 100 a100 (.node 91 a91 .leaf .leaf) .leaf) (.node 102 a102 .leaf .leaf))) (.node 108 a108 (.node 106 a106 (.node 105 a105 (.node 104 a104 .leaf .leaf) .leaf) (.node 107 a107 .leaf .leaf)) (.node 115 a115 (.node 110 a110 (.node 109 a109 .leaf .leaf) .leaf) (.node 117 a117 .leaf .leaf)))) (.node 130 a130 (.node 123 a123 (.node 121 a121 (.node 120 a120 (.node 119 a119 .leaf .leaf) .leaf) (.node 122 a122 .leaf .leaf)) (.node 127 a127 (.node 125 a125 (.node 124 a124 .leaf .leaf) .leaf) (.node 129 a129 .leaf .leaf))) (.node 137 a137 (.node 133 a133 (.node 132 a132 (.node 131 a131 .leaf .leaf) .leaf) (.node 136 a136 .leaf .leaf)) (.node 141 a141 (.node 138 a138 .leaf .leaf) (.node 142 a142 .leaf .leaf))))))
end
end Go.Proofs.YtjacnbabnpgpaaaGreatDoor
