/- The program's functions as the abstract machine's code: what it is compiled to, by program; that it is the compiler's is shown in the text on the environment. -/
import Derived.Test.YtenpedmcbmlmkaaGreatDoorZA
namespace Go.Proofs.YtenpedmcbmlmkaaGreatDoor
noncomputable section
open Go Go.Abs Go.Abs.T
/-- strings.makeASCIISet -/
def a347 : AFn := ⟨21, [.cell 2 true 256, .tmp 3],
 (.seq (.reg [o 2 (.alloc 414 [(.d (.b false)), (.d (.b false)), (.d (.b false)), (.d (.b false)), (.d (.b false)), (.d (.b false)), (.d (.b false)), (.d (.b false)), (.d (.b false)), (.d (.b false)), (.d (.b false)), (.d (.b false)), (.d (.b false)), (.d (.b false)), (.d (.b false)), (.d (.b false)), (.d (.b false)), (.d (.b false)), (.d (.b false)), (.d (.b false)), (.d (.b false)), (.d (.b false)), (.d (.b false)), (.d (.b false)), (.d (.b false)), (.d (.b false)), (.d (.b false)), (.d (.b false)), (.d (.b false)), (.d (.b false)), (.d (.b false)), (.d (.b false)), (.d (.b false)), (.d (.b false)), (.d (.b false)), (.d (.b false)), (.d (.b false)), (.d (.b false)), (.d (.b false)), (.d (.b false)), (.d (.b false)), (.d (.b false)), (.d (.b false)), (.d (.b false)), (.d (.b false)), (.d (.b false)), (.d (.b false)), (.d (.b false)), (.d (.b false)), (.d (.b false)), (.d (.b false)), (.d (.b false)), (.d (.b false)), (.d (.b false)), (.d (.b false)), (.d (.b false)), (.d (.b false)), (.d (.b false)), (.d (.b false)), (.d (.b false)), (.d (.b false)), (.d (.b false)), (.d (.b false)), (.d (.b false)), (.d (.b false)), (.d (.b false)), (.d (.b false)), (.d (.b false)), (.d (.b false)), (.d (.b false)), (.d (.b false)), (.d (.b false)), (.d (.b false)), (.d (.b false)), (.d (.b false)), (.d (.b false)), (.d (.b false)), (.d (.b false)), (.d (.b false)), (.d (.b false)), (.d (.b false)), (.d (.b false)), (.d (.b false)), (.d (.b false)), (.d (.b false)), (.d (.b false)), (.d (.b false)), (.d (.b false)), (.d (.b false)), (.d (.b false)), (.d (.b false)), (.d (.b false)), (.d (.b false)), (.d (.b false)), (.d (.b false)), (.d (.b false)), (.d (.b false)), (.d (.b false)), (.d (.b false)), (.d (.b false)), (.d (.b false)), (.d (.b false)), (.d (.b false)), (.d (.b false)), (.d (.b false)), (.d (.b false)), (.d (.b false)), (.d (.b false)), (.d (.b false)), (.d (.b false)), (.d (.b false)), (.d (.b false)), (.d (.b false)), (.d (.b false)), (.d (.b false)), (.d (.b false)), (.d (.b false)), (.d (.b false)), (.d (.b false)), (.d (.b false)), (.d (.b false)), (.d (.b false)), (.d (.b false)), (.d (.b false)), (.d (.b false)), (.d (.b false)), (.d (.b false)), (.d (.b false)), (.d (.b false)), (.d (.b false)), (.d (.b false)), (.d (.b false)), (.d (.b false)), (.d (.b false)), (.d (.b false)), (.d (.b false)), (.d (.b false)), (.d (.b false)), (.d (.b false)), (.d (.b false)), (.d (.b false)), (.d (.b false)), (.d (.b false)), (.d (.b false)), (.d (.b false)), (.d (.b false)), (.d (.b false)), (.d (.b false)), (.d (.b false)), (.d (.b false)), (.d (.b false)), (.d (.b false)), (.d (.b false)), (.d (.b false)), (.d (.b false)), (.d (.b false)), (.d (.b false)), (.d (.b false)), (.d (.b false)), (.d (.b false)), (.d (.b false)), (.d (.b false)), (.d (.b false)), (.d (.b false)), (.d (.b false)), (.d (.b false)), (.d (.b false)), (.d (.b false)), (.d (.b false)), (.d (.b false)), (.d (.b false)), (.d (.b false)), (.d (.b false)), (.d (.b false)), (.d (.b false)), (.d (.b false)), (.d (.b false)), (.d (.b false)), (.d (.b false)), (.d (.b false)), (.d (.b false)), (.d (.b false)), (.d (.b false)), (.d (.b false)), (.d (.b false)), (.d (.b false)), (.d (.b false)), (.d (.b false)), (.d (.b false)), (.d (.b false)), (.d (.b false)), (.d (.b false)), (.d (.b false)), (.d (.b false)), (.d (.b false)), (.d (.b false)), (.d (.b false)), (.d (.b false)), (.d (.b false)), (.d (.b false)), (.d (.b false)), (.d (.b false)), (.d (.b false)), (.d (.b false)), (.d (.b false)), (.d (.b false)), (.d (.b false)), (.d (.b false)), (.d (.b false)), (.d (.b false)), (.d (.b false)), (.d (.b false)), (.d (.b false)), (.d (.b false)), (.d (.b false)), (.d (.b false)), (.d (.b false)), (.d (.b false)), (.d (.b false)), (.d (.b false)), (.d (.b false)), (.d (.b false)), (.d (.b false)), (.d (.b false)), (.d (.b false)), (.d (.b false)), (.d (.b false)), (.d (.b false)), (.d (.b false)), (.d (.b false)), (.d (.b false)), (.d (.b false)), (.d (.b false)), (.d (.b false)), (.d (.b false)), (.d (.b false)), (.d (.b false)), (.d (.b false)), (.d (.b false)), (.d (.b false)), (.d (.b false)), (.d (.b false)), (.d (.b false)), (.d (.b false)), (.d (.b false)), (.d (.b false)), (.d (.b false)), (.d (.b false)), (.d (.b false)), (.d (.b false)), (.d (.b false)), (.d (.b false)), (.d (.b false)), (.d (.b false)), (.d (.b false)), (.d (.b false))]), o 3 (.mv (.c (.d (.b false))))])
 (.seq (.seq (.reg [o 4 (.mv (k 0))])
 (.blk 0 (.loop (.seq (.seq (.reg [m 6 4, m 7 0, o 8 (.len 0 (t 7)), o 9 (b .lss (t 6) (t 8))])
 (.cond (t 9)
 .skip
 (.exit 0)))
 (.seq (.blk 1 (.seq (.reg [m 12 0, m 13 4, o 14 (.ixS (t 12) (t 13)), m 5 14])
 (.seq (.seq (.reg [m 15 5, o 16 (b .geq (t 15) (.c (.d (.i .u8 128))))])
 (.cond (t 16)
 (.seq (.reg [o 17 (.load true 256 (t 2)), u (.store 256 (t 2) (t 17)), o 3 (.mv (.c (.d (.b false))))])
 .ret)
 .skip))
 (.reg [m 18 5, o 19 (.iaA 256 1 (t 2) (t 18)), u (.store 1 (t 19) (.c (.d (.b true))))]))))
 (.reg [m 10 4, o 11 (b .add (t 10) (k 1)), m 4 11]))))))
 (.seq (.reg [o 20 (.load true 256 (t 2)), u (.store 256 (t 2) (t 20)), o 3 (.mv (.c (.d (.b true))))])
 .ret))), false⟩
/-- strings.trimLeftASCII -/
def a348 : AFn := ⟨16, [.tmp 4],
 (.seq (.reg [o 4 (.mv (.c (.d (.s []))))])
 (.seq (.blk 0 (.loop (.seq (.seq (.reg [m 5 0, o 6 (.len 0 (t 5)), o 7 (b .gtr (t 6) (k 0))])
 (.cond (t 7)
 .skip
 (.exit 0)))
 (.blk 1 (.seq (.seq (.reg [m 8 1, m 9 0, o 10 (.ixS (t 9) (k 0)), o 11 (.callf 387 [(t 8), (t 10)]), o 12 (.un .not (t 11))])
 (.cond (t 12)
 (.exit 0)
 .skip))
 (.reg [m 13 0, o 14 (.slStr (t 13) (some (k 1)) none), m 0 14]))))))
 (.seq (.reg [m 15 0, m 4 15])
 .ret))), false⟩
/-- strings.trimRightASCII -/
def a349 : AFn := ⟨22, [.tmp 4],
 (.seq (.reg [o 4 (.mv (.c (.d (.s []))))])
 (.seq (.blk 0 (.loop (.seq (.seq (.reg [m 5 0, o 6 (.len 0 (t 5)), o 7 (b .gtr (t 6) (k 0))])
 (.cond (t 7)
 .skip
 (.exit 0)))
 (.blk 1 (.seq (.seq (.reg [m 8 1, m 9 0, m 10 0, o 11 (.len 0 (t 10)), o 12 (b .sub (t 11) (k 1)), o 13 (.ixS (t 9) (t 12)), o 14 (.callf 387 [(t 8), (t 13)]), o 15 (.un .not (t 14))])
 (.cond (t 15)
 (.exit 0)
 .skip))
 (.reg [m 16 0, m 17 0, o 18 (.len 0 (t 17)), o 19 (b .sub (t 18) (k 1)), o 20 (.slStr (t 16) none (some (t 19))), m 0 20]))))))
 (.seq (.reg [m 21 0, m 4 21])
 .ret))), false⟩
/-- (foreman/check.asked).has -/
def a352 : AFn := ⟨9, [.tmp 4],
 (.seq (.reg [o 2 (.box 313 (t 0)), o 4 (.mv (.c (.d (.b false))))])
 (.seq (.reg [o 5 (.fadd 8 (t 2)), l 6 5, m 7 1, o 8 (.callf 145 [(t 6), (t 7)]), m 4 8])
 .ret)), false⟩
/-- (foreman/check.asked).wide$1 -/
def a353 : AFn := ⟨14, [.tmp 3],
 (.seq (.reg [o 2 (.box 63 (t 0)), o 3 (.mv (.c (.d (.b false))))])
 (.seq (.reg [o 4 (.load true 6 (t 2)), o 5 (.callf 354 [(t 4)]), m 6 5, og 7 (.fadd 4 (t 2)) 6 true, lg 8 7 6 true, og 9 (.fadd 0 (t 1)) 6 true, og 10 (.fadd 2 (t 9)) 6 true, lg 11 10 6 true, og 12 (b .gtr (t 8) (t 11)) 6 true, o 13 (.pick (t 6) (t 12) (.c (.d (.b false)))), m 3 13])
 .ret)), false⟩
/-- foreman/check.isMap -/
def a354 : AFn := ⟨6, [.tmp 2],
 (.seq (.reg [o 1 (.box 63 (t 0)), o 2 (.mv (.c (.d (.b false))))])
 (.seq (.reg [o 3 (.fadd 1 (t 1)), l 4 3, o 5 (b .eql (t 4) (.c (.d (.i .u8 1)))), m 2 5])
 .ret)), false⟩
/-- (foreman/check.asked).twice$1 -/
def a355 : AFn := ⟨14, [.tmp 3],
 (.seq (.reg [o 2 (.box 63 (t 0)), o 3 (.mv (.c (.d (.b false))))])
 (.seq (.reg [l 4 1, o 5 (.fadd 0 (t 2)), l 6 5, o 7 (.look (.one .s) false [(.d (.i .i64 0))] false (t 4) (t 6)), o 8 (b .add (t 7) (k 1)), u (.mupd (.one .s) (t 4) (t 6) (t 8))])
 (.seq (.reg [l 9 1, o 10 (.fadd 0 (t 2)), l 11 10, o 12 (.look (.one .s) false [(.d (.i .i64 0))] false (t 9) (t 11)), o 13 (b .gtr (t 12) (k 1)), m 3 13])
 .ret))), false⟩
/-- (foreman/check.asked).refers$1 -/
def a356 : AFn := ⟨19, [.tmp 3],
 (.seq (.reg [o 2 (.box 63 (t 0)), o 3 (.mv (.c (.d (.b false))))])
 (.seq (.reg [o 4 (.fadd 2 (t 2)), l 5 4, o 6 (.load true 9 (t 1)), o 7 (.mkfn (.func 357) [(t 6)] []), o 8 (.callf 218 [(t 5), (t 7)]), m 9 8, og 10 (.load true 6 (t 2)) 9 false, og 11 (.callf 354 [(t 10)]) 9 false, mg 12 11 9 false, og 13 (.load true 9 (t 1)) 12 true, og 14 (.fadd 3 (t 2)) 12 true, lg 15 14 12 true, og 16 (.callf 357 [(t 13), (t 15)]) 12 true, og 17 (.pick (t 12) (t 16) (.c (.d (.b false)))) 9 false, o 18 (.pick (t 9) (.c (.d (.b true))) (t 17)), m 3 18])
 .ret)), false⟩
/-- foreman/check.Cost -/
def a358 : AFn := ⟨21, [.tmp 2],
 (.seq (.reg [o 1 (.box 63 (t 0)), o 2 (.mv (k 0))])
 (.seq (.reg [o 3 (.mv (k 1))])
 (.seq (.seq (.reg [o 5 (.fadd 1 (t 1)), l 6 5, o 7 (b .eql (t 6) (.c (.d (.i .u8 1))))])
 (.cond (t 7)
 (.reg [o 8 (.fadd 4 (t 1)), l 9 8, m 3 9])
 .skip))
 (.seq (.reg [m 10 3, o 11 (.fadd 5 (t 1)), l 12 11, o 13 (b .add (k 1) (t 12)), o 14 (b .mul (t 10) (t 13)), m 4 14])
 (.seq (.seq (.reg [o 15 (.fadd 1 (t 1)), l 16 15, o 17 (b .eql (t 16) (.c (.d (.i .u8 1))))])
 (.cond (t 17)
 (.reg [m 18 4, o 19 (b .add (t 18) (k 1)), m 4 19])
 .skip))
 (.seq (.reg [m 20 4, m 2 20])
 .ret)))))), false⟩
/-- (foreman/check.asked).over$1 -/
def a359 : AFn := ⟨59, [.tmp 3],
 (.seq (.reg [o 2 (.box 63 (t 0)), o 3 (.mv (.c (.d (.b false))))])
 (.seq (.seq (.reg [o 7 (.load true 6 (t 2)), o 8 (.callf 354 [(t 7)]), o 9 (.un .not (t 8))])
 (.cond (t 9)
 (.seq (.reg [o 3 (.mv (.c (.d (.b false))))])
 .ret)
 .skip))
 (.seq (.seq (.reg [o 11 (.load true 9 (t 1)), o 12 (.fadd 3 (t 2)), l 13 12, o 14 (.callf 306 [(t 11), (t 13)]), m 10 14, o 15 (.extr (t 10) 0), o 16 (.extr (t 10) 1), o 17 (.extr (t 10) 2), m 4 15, m 5 16, m 6 17])
 (.blk 0 (.seq (.reg [m 19 4, o 20 (b .geq (t 19) (k 0)), m 18 20])
 (.cond (t 18)
 (.seq (.dreg 0 [⟨o 21 (.fadd 8 (t 1)), 0, false, [], none⟩, ⟨l 22 21, 1, false, [], none⟩, ⟨m 23 4, 2, false, [], none⟩, ⟨o 24 (.iaS 6 (t 22) (t 23)), 3, false, [], none⟩, ⟨o 25 (.load true 6 (t 24)), 4, false, [], none⟩, ⟨o 26 (.callf 354 [(t 25)]), 5, true, [], none⟩, ⟨m 27 26, 6, false, [5], none⟩, ⟨og 28 (.fadd 8 (t 1)) 27 true, 7, false, [5], none⟩, ⟨lg 29 28 27 true, 8, false, [5], none⟩, ⟨mg 30 4 27 true, 9, false, [5], none⟩, ⟨og 31 (.iaS 6 (t 29) (t 30)) 27 true, 10, false, [5], none⟩, ⟨og 32 (.fadd 4 (t 31)) 27 true, 11, false, [5], none⟩, ⟨lg 33 32 27 true, 12, false, [5], none⟩, ⟨og 34 (.fadd 4 (t 2)) 27 true, 13, false, [5], none⟩, ⟨lg 35 34 27 true, 14, false, [5], none⟩, ⟨og 36 (b .gtr (t 33) (t 35)) 27 true, 15, false, [5], none⟩, ⟨o 37 (.pick (t 27) (t 36) (.c (.d (.b false)))), 16, false, [5], none⟩, ⟨m 3 37, 17, false, [5], none⟩])
 .ret)
 (.seq (.reg [m 39 5, o 40 (b .geq (t 39) (k 0)), m 38 40])
 (.cond (t 38)
 (.seq (.dreg 0 [⟨o 41 (.fadd 5 (t 1)), 0, false, [], none⟩, ⟨l 42 41, 1, false, [], none⟩, ⟨m 43 5, 2, false, [], none⟩, ⟨o 44 (.iaS 16 (t 42) (t 43)), 3, false, [], none⟩, ⟨o 45 (.fadd 2 (t 44)), 4, false, [], none⟩, ⟨l 46 45, 5, false, [], none⟩, ⟨o 47 (b .eql (t 46) (.c (.d (.i .u8 1)))), 6, false, [], none⟩, ⟨m 48 47, 7, false, [], none⟩, ⟨og 49 (.fadd 5 (t 1)) 48 true, 8, false, [], none⟩, ⟨lg 50 49 48 true, 9, false, [], none⟩, ⟨mg 51 5 48 true, 10, false, [], none⟩, ⟨og 52 (.iaS 16 (t 50) (t 51)) 48 true, 11, false, [], none⟩, ⟨og 53 (.fadd 7 (t 52)) 48 true, 12, false, [], none⟩, ⟨lg 54 53 48 true, 13, false, [], none⟩, ⟨og 55 (.fadd 4 (t 2)) 48 true, 14, false, [], none⟩, ⟨lg 56 55 48 true, 15, false, [], none⟩, ⟨og 57 (b .gtr (t 54) (t 56)) 48 true, 16, false, [], none⟩, ⟨o 58 (.pick (t 48) (t 57) (.c (.d (.b false)))), 17, false, [], none⟩, ⟨m 3 58, 18, false, [], none⟩])
 .ret)
 .skip))))))
 (.seq (.reg [o 3 (.mv (.c (.d (.b false))))])
 .ret)))), false⟩
/-- foreman/ident.Right -/
def a362 : AFn := ⟨14, [.tmp 2],
 (.seq (.reg [o 1 (.box 180 (t 0)), o 2 (.mv (.c (.d (.b false))))])
 (.seq (.reg [o 3 (.mv (.c (.d (.fn (.func 393) [] []))))])
 (.seq (.reg [o 4 (.fadd 0 (t 1)), l 5 4, o 6 (.callf 243 [(t 5)]), m 7 6, og 8 (.fadd 1 (t 1)) 7 true, lg 9 8 7 true, mg 10 3 7 true, og 11 (.callf 394 [(t 9), (t 10)]) 7 true, og 12 (.un .not (t 11)) 7 true, o 13 (.pick (t 7) (t 12) (.c (.d (.b false)))), m 2 13])
 .ret))), false⟩
/-- (*strings.Builder).WriteString -/
def a363 : AFn := ⟨19, [.tmp 4, .tmp 5],
 (.seq (.reg [o 4 (.mv (k 0)), o 5 (.mv (.c (.d .nili)))])
 (.seq (.reg [m 6 0, o 7 (.callf 395 [(t 6)])])
 (.seq (.reg [m 8 0, m 9 0, o 10 (.nilchk (t 9)), o 11 (.fadd 1 (t 10)), l 12 11, m 13 1, o 14 (.app 5 1 1 false (t 12) (t 13)), o 15 (.nilchk (t 8)), o 16 (.fadd 1 (t 15)), u (.store 1 (t 16) (t 14))])
 (.seq (.reg [m 17 1, o 18 (.len 0 (t 17)), m 4 18, o 5 (.mv (.c (.d .nili)))])
 .ret)))), true⟩
/-- (*strings.Builder).String -/
def a364 : AFn := ⟨14, [.tmp 2],
 (.seq (.reg [o 2 (.mv (.c (.d (.s []))))])
 (.seq (.dreg 0 [⟨m 3 0, 0, false, [], none⟩, ⟨o 4 (.nilchk (t 3)), 1, false, [], none⟩, ⟨o 5 (.fadd 1 (t 4)), 2, false, [], none⟩, ⟨l 6 5, 3, false, [], none⟩, ⟨o 7 (.ssd (t 6)), 4, true, [], none⟩, ⟨m 8 0, 5, false, [], none⟩, ⟨o 9 (.nilchk (t 8)), 6, false, [], none⟩, ⟨o 10 (.fadd 1 (t 9)), 7, false, [], none⟩, ⟨l 11 10, 8, false, [], none⟩, ⟨o 12 (.len 1 (t 11)), 9, false, [], none⟩, ⟨o 13 (.uss 5 (t 7) (t 12)), 10, true, [], none⟩, ⟨m 2 13, 11, false, [10, 4], none⟩])
 .ret)), false⟩
/-- (*foreman/order.Order).Put -/
def a365 : AFn := ⟨69, [.tmp 6, .tmp 7],
 (.seq (.reg [o 6 (.mv (k 0)), o 7 (.mv (k 0))])
 (.seq (.blk 0 (.seq (.reg [m 14 0, o 15 (.callf 90 [(t 14)]), m 13 15])
 (.cond (t 13)
 (.seq (.reg [o 6 (.mv (k 0)), o 7 (.mv (k 1))])
 .ret)
 (.seq (.reg [m 17 0, m 18 1, o 19 (.callf 366 [(t 17), (t 18)]), o 20 (.un .not (t 19)), m 21 20, mg 22 0 21 false, mg 23 2 21 false, og 24 (.callf 366 [(t 22), (t 23)]) 21 false, og 25 (.un .not (t 24)) 21 false, o 26 (.pick (t 21) (.c (.d (.b true))) (t 25)), m 16 26])
 (.cond (t 16)
 (.seq (.reg [o 6 (.mv (k 0)), o 7 (.mv (k 2))])
 .ret)
 (.seq (.reg [m 28 1, m 29 2, o 30 (b .eql (t 28) (t 29)), m 27 30])
 (.cond (t 27)
 (.seq (.reg [o 6 (.mv (k 0)), o 7 (.mv (k 25))])
 .ret)
 .skip)))))))
 (.seq (.reg [o 8 (.mv (k 0))])
 (.seq (.seq (.dreg 0 [⟨m 31 0, 0, false, [], none⟩, ⟨o 32 (.nilchk (t 31)), 1, false, [], none⟩, ⟨o 33 (.fadd 1 (t 32)), 2, false, [], none⟩, ⟨l 34 33, 3, false, [], none⟩, ⟨m 35 1, 4, false, [], none⟩, ⟨o 36 (.iaS 1 (t 34) (t 35)), 5, false, [], none⟩, ⟨l 37 36, 6, false, [], none⟩, ⟨m 38 0, 7, false, [], none⟩, ⟨o 39 (.nilchk (t 38)), 8, false, [], none⟩, ⟨o 40 (.fadd 1 (t 39)), 9, false, [], none⟩, ⟨l 41 40, 10, false, [], none⟩, ⟨m 42 2, 11, false, [], none⟩, ⟨o 43 (.iaS 1 (t 41) (t 42)), 12, false, [], none⟩, ⟨l 44 43, 13, false, [], none⟩, ⟨o 45 (b .gtr (t 37) (t 44)), 14, false, [], none⟩])
 (.cond (t 45)
 (.seq (.reg [m 47 0, m 48 1, m 49 2, o 50 (.callf 396 [(t 47), (t 48), (t 49)]), m 46 50, o 51 (.extr (t 46) 0), o 52 (.extr (t 46) 1), m 9 51, m 10 52])
 (.seq (.seq (.reg [m 53 10, o 54 (b .neq (t 53) (k 0))])
 (.cond (t 54)
 (.seq (.reg [m 55 10, o 6 (.mv (k 0)), m 7 55])
 .ret)
 .skip))
 (.reg [m 56 9, m 8 56])))
 .skip))
 (.seq (.reg [m 58 0, o 59 (.nilchk (t 58)), o 60 (.fadd 0 (t 59)), l 61 60, m 62 1, m 63 2, o 64 (.callf 397 [(t 61), (t 62), (t 63)]), m 57 64, o 65 (.extr (t 57) 0), o 66 (.extr (t 57) 1), m 11 65, m 12 66])
 (.seq (.reg [m 67 8, m 68 12, m 6 67, m 7 68])
 .ret)))))), false⟩
/-- (*foreman/order.Order).is -/
def a366 : AFn := ⟨13, [.tmp 4],
 (.seq (.reg [o 4 (.mv (.c (.d (.b false))))])
 (.seq (.reg [m 5 1, o 6 (b .geq (t 5) (k 0)), m 7 6, mg 8 1 7 true, mg 9 0 7 true, og 10 (.callf 235 [(t 9)]) 7 true, og 11 (b .lss (t 8) (t 10)) 7 true, o 12 (.pick (t 7) (t 11) (.c (.d (.b false)))), m 4 12])
 .ret)), false⟩
/-- foreman/join.done -/
def a367 : AFn := ⟨9, [.tmp 4],
 (.seq (.reg [o 2 (.box 45 (t 0)), o 4 (.mv (.c (.d (.b false))))])
 (.seq (.reg [m 5 1, o 6 (.mkfn (.func 398) [] [(t 2)]), o 7 (.callf 292 [(t 5), (t 6)]), o 8 (.un .not (t 7)), m 4 8])
 .ret)), false⟩
/-- internal/stringslite.Index -/
def a372 : AFn := ⟨143, [.tmp 4],
 (.seq (.reg [o 4 (.mv (k 0))])
 (.seq (.reg [m 14 1, o 15 (.len 0 (t 14)), m 5 15])
 (.seq (.blk 0 (.seq (.reg [m 17 5, o 18 (b .eql (t 17) (k 0)), m 19 18, mg 20 1 19 false, mg 21 0 19 false, og 22 (b .eql (t 20) (t 21)) 19 false, o 23 (.pick (t 19) (.c (.d (.b true))) (t 22)), m 16 23])
 (.cond (t 16)
 (.seq (.reg [o 4 (.mv (k 0))])
 .ret)
 (.seq (.reg [m 25 5, o 26 (b .eql (t 25) (k 1)), m 24 26])
 (.cond (t 24)
 (.seq (.reg [m 27 0, m 28 1, o 29 (.ixS (t 28) (k 0)), o 30 (.callf 400 [(t 27), (t 29)]), m 4 30])
 .ret)
 (.seq (.reg [m 32 5, m 33 0, o 34 (.len 0 (t 33)), o 35 (b .geq (t 32) (t 34)), m 31 35])
 (.cond (t 31)
 (.seq (.reg [o 4 (.mv (k (-1)))])
 .ret)
 (.seq (.reg [m 37 5, o 38 (.load false 1 (.c (.glob 3 0))), o 39 (b .leq (t 37) (t 38)), m 40 39, mg 41 0 40 true, og 42 (.len 0 (t 41)) 40 true, og 43 (b .leq (t 42) (k 64)) 40 true, o 44 (.pick (t 40) (t 43) (.c (.d (.b false)))), m 36 44])
 (.cond (t 36)
 (.seq (.reg [m 45 0, m 46 1, o 47 (.prim 401 .index [(t 45), (t 46)]), m 4 47])
 .ret)
 .skip)))))))))
 (.seq (.reg [m 48 1, o 49 (.ixS (t 48) (k 0)), m 6 49])
 (.seq (.reg [m 50 1, o 51 (.ixS (t 50) (k 1)), m 7 51])
 (.seq (.reg [o 8 (.mv (k 0))])
 (.seq (.reg [m 52 0, o 53 (.len 0 (t 52)), m 54 5, o 55 (b .sub (t 53) (t 54)), o 56 (b .add (t 55) (k 1)), m 9 56])
 (.seq (.reg [o 10 (.mv (k 0))])
 (.seq (.blk 1 (.loop (.seq (.seq (.reg [m 57 8, m 58 9, o 59 (b .lss (t 57) (t 58))])
 (.cond (t 59)
 .skip
 (.exit 1)))
 (.blk 2 (.seq (.seq (.reg [m 60 0, m 61 8, o 62 (.ixS (t 60) (t 61)), m 63 6, o 64 (b .neq (t 62) (t 63))])
 (.cond (t 64)
 (.seq (.reg [m 65 0, m 66 8, o 67 (b .add (t 66) (k 1)), m 68 9, o 69 (.slStr (t 65) (some (t 67)) (some (t 68))), m 70 6, o 71 (.callf 400 [(t 69), (t 70)]), m 11 71])
 (.seq (.seq (.reg [m 72 11, o 73 (b .lss (t 72) (k 0))])
 (.cond (t 73)
 (.seq (.reg [o 4 (.mv (k (-1)))])
 .ret)
 .skip))
 (.reg [m 74 8, m 75 11, o 76 (b .add (t 75) (k 1)), o 77 (b .add (t 74) (t 76)), m 8 77])))
 .skip))
 (.seq (.seq (.reg [m 78 0, m 79 8, o 80 (b .add (t 79) (k 1)), o 81 (.ixS (t 78) (t 80)), m 82 7, o 83 (b .eql (t 81) (t 82)), m 84 83, mg 85 0 84 true, mg 86 8 84 true, mg 87 8 84 true, mg 88 5 84 true, og 89 (b .add (t 87) (t 88)) 84 true, og 90 (.slStr (t 85) (some (t 86)) (some (t 89))) 84 true, mg 91 1 84 true, og 92 (b .eql (t 90) (t 91)) 84 true, o 93 (.pick (t 84) (t 92) (.c (.d (.b false))))])
 (.cond (t 93)
 (.seq (.reg [m 94 8, m 4 94])
 .ret)
 .skip))
 (.seq (.reg [m 95 8, o 96 (b .add (t 95) (k 1)), m 8 96])
 (.seq (.reg [m 97 10, o 98 (b .add (t 97) (k 1)), m 10 98])
 (.seq (.reg [m 99 5, o 100 (.load false 1 (.c (.glob 3 0))), o 101 (b .leq (t 99) (t 100)), m 102 101, mg 103 10 102 true, mg 104 8 102 true, og 105 (.callf 402 [(t 104)]) 102 true, og 106 (b .gtr (t 103) (t 105)) 102 true, o 107 (.pick (t 102) (t 106) (.c (.d (.b false))))])
 (.cond (t 107)
 (.seq (.reg [m 108 0, m 109 8, o 110 (.slStr (t 108) (some (t 109)) none), m 111 1, o 112 (.prim 401 .index [(t 110), (t 111)]), m 12 112])
 (.seq (.seq (.reg [m 113 12, o 114 (b .geq (t 113) (k 0))])
 (.cond (t 114)
 (.seq (.reg [m 115 12, m 116 8, o 117 (b .add (t 115) (t 116)), m 4 117])
 .ret)
 .skip))
 (.seq (.reg [o 4 (.mv (k (-1)))])
 .ret)))
 (.seq (.reg [m 118 5, o 119 (.load false 1 (.c (.glob 3 0))), o 120 (b .gtr (t 118) (t 119)), m 121 120, mg 122 10 121 true, mg 123 8 121 true, og 124 (b .shr (t 123) (.c (.d (.i .u64 4)))) 121 true, og 125 (b .add (k 4) (t 124)) 121 true, og 126 (b .geq (t 122) (t 125)) 121 true, o 127 (.pick (t 121) (t 126) (.c (.d (.b false)))), m 128 127, mg 129 8 128 true, mg 130 9 128 true, og 131 (b .lss (t 129) (t 130)) 128 true, o 132 (.pick (t 128) (t 131) (.c (.d (.b false))))])
 (.cond (t 132)
 (.seq (.reg [m 133 0, m 134 8, o 135 (.slStr (t 133) (some (t 134)) none), m 136 1, o 137 (.callf 403 [(t 135), (t 136)]), m 13 137])
 (.seq (.seq (.reg [m 138 13, o 139 (b .lss (t 138) (k 0))])
 (.cond (t 139)
 (.seq (.reg [o 4 (.mv (k (-1)))])
 .ret)
 .skip))
 (.seq (.reg [m 140 8, m 141 13, o 142 (b .add (t 140) (t 141)), m 4 142])
 .ret)))
 .skip))))))))))))
 (.seq (.reg [o 4 (.mv (k (-1)))])
 .ret)))))))))), false⟩
/-- internal/strconv.FormatInt -/
def a378 : AFn := ⟨54, [.tmp 4],
 (.seq (.reg [o 4 (.mv (.c (.d (.s []))))])
 (.seq (.seq (.reg [m 10 1, o 11 (b .eql (t 10) (k 10))])
 (.cond (t 11)
 (.seq (.seq (.reg [m 12 0, o 13 (b .leq (k 0) (t 12)), m 14 13, mg 15 0 14 true, og 16 (b .lss (t 15) (k 100)) 14 true, o 17 (.pick (t 14) (t 16) (.c (.d (.b false))))])
 (.cond (t 17)
 (.seq (.reg [m 18 0, o 19 (.callf 407 [(t 18)]), m 4 19])
 .ret)
 .skip))
 (.seq (.reg [o 5 (.alloc 478 [(.d (.i .u8 0)), (.d (.i .u8 0)), (.d (.i .u8 0)), (.d (.i .u8 0)), (.d (.i .u8 0)), (.d (.i .u8 0)), (.d (.i .u8 0)), (.d (.i .u8 0)), (.d (.i .u8 0)), (.d (.i .u8 0)), (.d (.i .u8 0)), (.d (.i .u8 0)), (.d (.i .u8 0)), (.d (.i .u8 0)), (.d (.i .u8 0)), (.d (.i .u8 0)), (.d (.i .u8 0)), (.d (.i .u8 0)), (.d (.i .u8 0)), (.d (.i .u8 0)), (.d (.i .u8 0)), (.d (.i .u8 0)), (.d (.i .u8 0)), (.d (.i .u8 0))])])
 (.seq (.reg [m 20 0, o 21 (.cvi .u64 (t 20)), m 6 21])
 (.seq (.seq (.reg [m 22 0, o 23 (b .lss (t 22) (k 0))])
 (.cond (t 23)
 (.reg [m 24 6, o 25 (.un .neg (t 24)), m 6 25])
 .skip))
 (.seq (.reg [m 26 6, o 27 (.callf 408 [(t 26)]), m 7 27])
 (.seq (.reg [m 28 7, o 29 (b .add (k 1) (t 28)), o 30 (.slArr 24 1 (t 5) (some (k 1)) (some (t 29)) none), m 31 6, o 32 (.callf 409 [(t 30), (t 31)])])
 (.seq (.seq (.reg [m 33 0, o 34 (b .lss (t 33) (k 0))])
 (.cond (t 34)
 (.seq (.reg [o 35 (.iaA 24 1 (t 5) (k 0)), u (.store 1 (t 35) (.c (.d (.i .u8 45))))])
 (.seq (.reg [m 36 7, o 37 (b .add (k 1) (t 36)), o 38 (.slArr 24 1 (t 5) none (some (t 37)) none), o 39 (.b2s (t 38)), m 4 39])
 .ret))
 .skip))
 (.seq (.reg [m 40 7, o 41 (b .add (k 1) (t 40)), o 42 (.slArr 24 1 (t 5) (some (k 1)) (some (t 41)) none), o 43 (.b2s (t 42)), m 4 43])
 .ret))))))))
 .skip))
 (.seq (.reg [m 45 0, o 46 (.cvi .u64 (t 45)), m 47 1, m 48 0, o 49 (b .lss (t 48) (k 0)), o 50 (.callf 410 [(.c .nilsl), (t 46), (t 47), (t 49), (.c (.d (.b false)))]), m 44 50, o 51 (.extr (t 44) 0), o 52 (.extr (t 44) 1), m 8 51, m 9 52])
 (.seq (.reg [m 53 9, m 4 53])
 .ret)))), false⟩
/-- foreman/crc.Table -/
def a380 : AFn := ⟨7, [.tmp 2],
 (.seq (.reg [o 2 (.mv (.c (.d (.i .u32 0))))])
 (.seq (.reg [o 3 (.callf 411 [(k 8), (.c (.d (.fn (.func 412) [] [])))]), m 4 0, o 5 (.cvi .u32 (t 4)), o 6 (.callv (t 3) [(t 5)]), m 2 6])
 .ret)), false⟩
/-- (*strings.asciiSet).contains -/
def a387 : AFn := ⟨10, [.tmp 4],
 (.seq (.reg [o 4 (.mv (.c (.d (.b false))))])
 (.seq (.reg [m 5 0, m 6 1, o 7 (.nilchk (t 5)), o 8 (.iaA 256 1 (t 7) (t 6)), l 9 8, m 4 9])
 .ret)), false⟩
/-- foreman/ident.Right$1 -/
def a393 : AFn := ⟨18, [.tmp 2],
 (.seq (.reg [o 1 (.box 258 (t 0)), o 2 (.mv (.c (.d (.b false))))])
 (.seq (.reg [o 3 (.fadd 0 (t 1)), l 4 3, o 5 (.callf 216 [(t 4)]), o 6 (.un .not (t 5)), m 7 6, og 8 (.fadd 1 (t 1)) 7 false, lg 9 8 7 false, og 10 (b .neq (t 9) (k (-1))) 7 false, mg 11 10 7 false, og 12 (.fadd 1 (t 1)) 11 true, lg 13 12 11 true, og 14 (.callf 243 [(t 13)]) 11 true, og 15 (.un .not (t 14)) 11 true, og 16 (.pick (t 11) (t 15) (.c (.d (.b false)))) 7 false, o 17 (.pick (t 7) (.c (.d (.b true))) (t 16)), m 2 17])
 .ret)), false⟩
/-- slices.ContainsFunc[[]foreman/api.Step,foreman/api.Step] -/
def a394 : AFn := ⟨9, [.tmp 4],
 (.seq (.reg [o 4 (.mv (.c (.d (.b false))))])
 (.seq (.reg [m 5 0, m 6 1, o 7 (.callf 421 [(t 5), (t 6)]), o 8 (b .geq (t 7) (k 0)), m 4 8])
 .ret)), false⟩
/-- (*strings.Builder).copyCheck -/
def a395 : AFn := ⟨20, [],
 (.seq (.reg [m 2 0, o 3 (.nilchk (t 2)), o 4 (.fadd 0 (t 3)), l 5 4, o 6 (.bin .eql .ptr (t 5) (.c (.d .nilp)))])
 (.cond (t 6)
 (.reg [m 7 0, m 8 0, o 9 (.cvP none (t 8)), o 10 (.prim 422 .noEscape [(t 9)]), o 11 (.cvP (some (425, 2)) (t 10)), o 12 (.nilchk (t 7)), o 13 (.fadd 0 (t 12)), u (.store 1 (t 13) (t 11))])
 (.seq (.reg [m 14 0, o 15 (.nilchk (t 14)), o 16 (.fadd 0 (t 15)), l 17 16, m 18 0, o 19 (.bin .neq .ptr (t 17) (t 18))])
 (.cond (t 19)
 .bad
 .skip)))), false⟩
/-- (*foreman/graph.Graph).Put -/
def a397 : AFn := ⟨69, [.tmp 6, .tmp 7],
 (.seq (.reg [o 6 (.mv (.c (.d (.b false)))), o 7 (.mv (k 0))])
 (.seq (.blk 0 (.seq (.reg [m 10 0, o 11 (.callf 143 [(t 10)]), m 9 11])
 (.cond (t 9)
 (.seq (.reg [o 6 (.mv (.c (.d (.b false)))), o 7 (.mv (k 1))])
 .ret)
 (.seq (.reg [m 13 0, m 14 1, o 15 (.callf 432 [(t 13), (t 14)]), o 16 (.un .not (t 15)), m 17 16, mg 18 0 17 false, mg 19 2 17 false, og 20 (.callf 432 [(t 18), (t 19)]) 17 false, og 21 (.un .not (t 20)) 17 false, o 22 (.pick (t 17) (.c (.d (.b true))) (t 21)), m 23 22, mg 24 1 23 false, mg 25 2 23 false, og 26 (b .eql (t 24) (t 25)) 23 false, o 27 (.pick (t 23) (.c (.d (.b true))) (t 26)), m 12 27])
 (.cond (t 12)
 (.seq (.reg [o 6 (.mv (.c (.d (.b false)))), o 7 (.mv (k 2))])
 .ret)
 .skip)))))
 (.seq (.reg [o 8 (.mv (.c (.d (.b false))))])
 (.seq (.dreg 0 [⟨m 34 0, 5, false, [], none⟩, ⟨o 35 (.nilchk (t 34)), 6, false, [], none⟩, ⟨o 36 (.fadd 1 (t 35)), 7, false, [], none⟩, ⟨l 37 36, 8, false, [], none⟩, ⟨m 38 1, 9, false, [], none⟩, ⟨o 39 (.iaS 2 (t 37) (t 38)), 10, false, [], none⟩, ⟨o 40 (.fadd 0 (t 39)), 11, false, [], none⟩, ⟨l 41 40, 12, false, [], none⟩, ⟨m 42 2, 13, false, [], none⟩, ⟨o 43 (.callf 433 [(t 41), (t 42)]), 14, true, [], none⟩, ⟨m 29 0, 0, false, [], none⟩, ⟨o 30 (.nilchk (t 29)), 1, false, [], none⟩, ⟨o 31 (.fadd 1 (t 30)), 2, false, [], none⟩, ⟨l 32 31, 3, false, [], none⟩, ⟨m 33 1, 4, false, [], none⟩, ⟨m 28 43, 15, false, [14], none⟩, ⟨o 44 (.extr (t 28) 0), 16, false, [14], none⟩, ⟨o 46 (.iaS 2 (t 32) (t 33)), 18, false, [14], none⟩, ⟨o 47 (.fadd 0 (t 46)), 19, false, [14], none⟩, ⟨u (.store 1 (t 47) (t 44)), 20, true, [], none⟩, ⟨o 45 (.extr (t 28) 1), 17, false, [14], none⟩, ⟨m 8 45, 21, false, [20, 14], none⟩])
 (.seq (.dreg 0 [⟨m 54 0, 5, false, [], none⟩, ⟨o 55 (.nilchk (t 54)), 6, false, [], none⟩, ⟨o 56 (.fadd 1 (t 55)), 7, false, [], none⟩, ⟨l 57 56, 8, false, [], none⟩, ⟨m 58 2, 9, false, [], none⟩, ⟨o 59 (.iaS 2 (t 57) (t 58)), 10, false, [], none⟩, ⟨o 60 (.fadd 1 (t 59)), 11, false, [], none⟩, ⟨l 61 60, 12, false, [], none⟩, ⟨m 62 1, 13, false, [], none⟩, ⟨o 63 (.callf 433 [(t 61), (t 62)]), 14, true, [], none⟩, ⟨m 49 0, 0, false, [], none⟩, ⟨o 50 (.nilchk (t 49)), 1, false, [], none⟩, ⟨o 51 (.fadd 1 (t 50)), 2, false, [], none⟩, ⟨l 52 51, 3, false, [], none⟩, ⟨m 53 2, 4, false, [], none⟩, ⟨m 48 63, 15, false, [14], none⟩, ⟨o 64 (.extr (t 48) 0), 16, false, [14], none⟩, ⟨o 66 (.iaS 2 (t 52) (t 53)), 18, false, [14], none⟩, ⟨o 67 (.fadd 1 (t 66)), 19, false, [14], none⟩, ⟨u (.store 1 (t 67) (t 64)), 20, true, [], none⟩, ⟨o 65 (.extr (t 48) 1), 17, false, [14], none⟩])
 (.seq (.reg [m 68 8, m 6 68, o 7 (.mv (k 0))])
 .ret)))))), false⟩
/-- internal/stringslite.IndexByte -/
def a400 : AFn := ⟨8, [.tmp 4],
 (.seq (.reg [o 4 (.mv (k 0))])
 (.seq (.reg [m 5 0, m 6 1, o 7 (.prim 434 .indexByte [(t 5), (t 6)]), m 4 7])
 .ret)), false⟩
/-- internal/strconv.small -/
def a407 : AFn := ⟨15, [.tmp 2],
 (.seq (.reg [o 2 (.mv (.c (.d (.s []))))])
 (.seq (.seq (.reg [m 3 0, o 4 (b .lss (t 3) (k 10))])
 (.cond (t 4)
 (.seq (.reg [m 5 0, m 6 0, o 7 (b .add (t 6) (k 1)), o 8 (.slStr (.c (.d (.s [48, 49, 50, 51, 52, 53, 54, 55, 56, 57, 97, 98, 99, 100, 101, 102, 103, 104, 105, 106, 107, 108, 109, 110, 111, 112, 113, 114, 115, 116, 117, 118, 119, 120, 121, 122]))) (some (t 5)) (some (t 7))), m 2 8])
 .ret)
 .skip))
 (.seq (.reg [m 9 0, o 10 (b .mul (t 9) (k 2)), m 11 0, o 12 (b .mul (t 11) (k 2)), o 13 (b .add (t 12) (k 2)), o 14 (.slStr (.c (.d (.s [48, 48, 48, 49, 48, 50, 48, 51, 48, 52, 48, 53, 48, 54, 48, 55, 48, 56, 48, 57, 49, 48, 49, 49, 49, 50, 49, 51, 49, 52, 49, 53, 49, 54, 49, 55, 49, 56, 49, 57, 50, 48, 50, 49, 50, 50, 50, 51, 50, 52, 50, 53, 50, 54, 50, 55, 50, 56, 50, 57, 51, 48, 51, 49, 51, 50, 51, 51, 51, 52, 51, 53, 51, 54, 51, 55, 51, 56, 51, 57, 52, 48, 52, 49, 52, 50, 52, 51, 52, 52, 52, 53, 52, 54, 52, 55, 52, 56, 52, 57, 53, 48, 53, 49, 53, 50, 53, 51, 53, 52, 53, 53, 53, 54, 53, 55, 53, 56, 53, 57, 54, 48, 54, 49, 54, 50, 54, 51, 54, 52, 54, 53, 54, 54, 54, 55, 54, 56, 54, 57, 55, 48, 55, 49, 55, 50, 55, 51, 55, 52, 55, 53, 55, 54, 55, 55, 55, 56, 55, 57, 56, 48, 56, 49, 56, 50, 56, 51, 56, 52, 56, 53, 56, 54, 56, 55, 56, 56, 56, 57, 57, 48, 57, 49, 57, 50, 57, 51, 57, 52, 57, 53, 57, 54, 57, 55, 57, 56, 57, 57]))) (some (t 10)) (some (t 13))), m 2 14])
 .ret))), false⟩
/-- foreman/crc.times -/
def a411 : AFn := ⟨6, [.tmp 4],
 (.seq (.reg [o 2 (.box 3 (t 0)), o 3 (.box 483 (t 1)), o 4 (.mv (.c (.d .nilf)))])
 (.seq (.reg [o 5 (.mkfn (.func 443) [] [(t 2), (t 3)]), m 4 5])
 .ret)), false⟩
/-- foreman/crc.half -/
def a412 : AFn := ⟨11, [.tmp 2],
 (.seq (.reg [o 2 (.mv (.c (.d (.i .u32 0))))])
 (.seq (.seq (.reg [m 3 0, o 4 (b .and (t 3) (.c (.d (.i .u32 1)))), o 5 (b .eql (t 4) (.c (.d (.i .u32 1))))])
 (.cond (t 5)
 (.seq (.reg [m 6 0, o 7 (b .shr (t 6) (.c (.d (.i .u64 1)))), o 8 (b .xor (t 7) (.c (.d (.i .u32 3988292384)))), m 2 8])
 .ret)
 .skip))
 (.seq (.reg [m 9 0, o 10 (b .shr (t 9) (.c (.d (.i .u64 1)))), m 2 10])
 .ret))), false⟩
/-- slices.IndexFunc[[]foreman/api.Step,foreman/api.Step] -/
def a421 : AFn := ⟨19, [.tmp 4],
 (.seq (.reg [o 4 (.mv (k 0))])
 (.seq (.seq (.reg [m 6 0, o 7 (.len 1 (t 6)), o 8 (.mv (k 0))])
 (.blk 0 (.loop (.seq (.reg [o 9 (b .lss (t 8) (t 7))])
 (.seq (.cond (t 9)
 .skip
 (.exit 0))
 (.seq (.blk 1 (.seq (.reg [m 10 8, m 5 10])
 (.seq (.reg [m 11 1, m 12 0, m 13 5, o 14 (.iaS 2 (t 12) (t 13)), o 15 (.load true 2 (t 14)), o 16 (.callv (t 11) [(t 15)])])
 (.cond (t 16)
 (.seq (.reg [m 17 5, m 4 17])
 .ret)
 .skip))))
 (.reg [o 18 (b .add (t 8) (k 1)), m 8 18])))))))
 (.seq (.reg [o 4 (.mv (k (-1)))])
 .ret))), false⟩
/-- slices.BinarySearch[[]int,int] -/
def a426 : AFn := ⟨54, [.tmp 4, .tmp 5],
 (.seq (.reg [o 4 (.mv (k 0)), o 5 (.mv (.c (.d (.b false))))])
 (.seq (.reg [m 10 0, o 11 (.len 1 (t 10)), m 6 11])
 (.seq (.reg [m 12 6, o 7 (.mv (k 0)), m 8 12])
 (.seq (.blk 0 (.loop (.seq (.seq (.reg [m 13 7, m 14 8, o 15 (b .lss (t 13) (t 14))])
 (.cond (t 15)
 .skip
 (.exit 0)))
 (.blk 1 (.seq (.reg [m 16 7, m 17 8, o 18 (b .add (t 16) (t 17)), o 19 (.cvi .u64 (t 18)), o 20 (b .shr (t 19) (.c (.d (.i .u64 1)))), o 21 (.cvi .i64 (t 20)), m 9 21])
 (.seq (.reg [m 22 0, m 23 9, o 24 (.iaS 1 (t 22) (t 23)), l 25 24, m 26 1, o 27 (.callf 449 [(t 25), (t 26)])])
 (.cond (t 27)
 (.reg [m 28 9, o 29 (b .add (t 28) (k 1)), m 7 29])
 (.reg [m 30 9, m 8 30]))))))))
 (.seq (.reg [m 31 7, m 32 7, m 33 6, o 34 (b .lss (t 32) (t 33)), m 35 34, mg 36 0 35 true, mg 37 7 35 true, og 38 (.iaS 1 (t 36) (t 37)) 35 true, lg 39 38 35 true, mg 40 1 35 true, og 41 (b .eql (t 39) (t 40)) 35 true, mg 42 41 35 true, mg 43 0 42 false, mg 44 7 42 false, og 45 (.iaS 1 (t 43) (t 44)) 42 false, lg 46 45 42 false, og 47 (.callf 450 [(t 46)]) 42 false, mg 48 47 42 false, mg 49 1 48 true, og 50 (.callf 450 [(t 49)]) 48 true, og 51 (.pick (t 48) (t 50) (.c (.d (.b false)))) 42 false, og 52 (.pick (t 42) (.c (.d (.b true))) (t 51)) 35 true, o 53 (.pick (t 35) (t 52) (.c (.d (.b false)))), m 4 31, m 5 53])
 .ret))))), false⟩
/-- (*foreman/graph.Graph).is -/
def a432 : AFn := ⟨13, [.tmp 4],
 (.seq (.reg [o 4 (.mv (.c (.d (.b false))))])
 (.seq (.reg [m 5 1, o 6 (b .geq (t 5) (k 0)), m 7 6, mg 8 1 7 true, mg 9 0 7 true, og 10 (.callf 319 [(t 9)]) 7 true, og 11 (b .lss (t 8) (t 10)) 7 true, o 12 (.pick (t 7) (t 11) (.c (.d (.b false)))), m 4 12])
 .ret)), false⟩
/-- foreman/graph.put -/
def a433 : AFn := ⟨21, [.tmp 4, .tmp 5],
 (.seq (.reg [o 4 (.mv (.c .nilsl)), o 5 (.mv (.c (.d (.b false))))])
 (.seq (.reg [m 9 0, m 10 1, o 11 (.callf 426 [(t 9), (t 10)]), m 8 11, o 12 (.extr (t 8) 0), o 13 (.extr (t 8) 1), m 6 12, m 7 13])
 (.seq (.seq (.reg [m 14 7])
 (.cond (t 14)
 (.seq (.reg [m 15 0, m 4 15, o 5 (.mv (.c (.d (.b false))))])
 .ret)
 .skip))
 (.seq (.reg [m 16 0, m 17 6, m 18 1, o 19 (.bsl 3 1 1 [(.d (.i .i64 0))] [(0, 1, (t 18))]), o 20 (.insrt 453 3 (t 16) (t 17) (t 19)), m 4 20, o 5 (.mv (.c (.d (.b true))))])
 .ret)))), true⟩
/-- foreman/crc.times$1 -/
def a443 : AFn := ⟨13, [.tmp 4],
 (.seq (.reg [o 4 (.mv (.c (.d (.i .u32 0))))])
 (.seq (.seq (.reg [l 5 1, o 6 (.mv (k 0))])
 (.blk 0 (.loop (.seq (.reg [o 7 (b .lss (t 6) (t 5))])
 (.seq (.cond (t 7)
 .skip
 (.exit 0))
 (.seq (.blk 1 (.reg [l 8 2, m 9 0, o 10 (.callv (t 8) [(t 9)]), m 0 10]))
 (.reg [o 11 (b .add (t 6) (k 1)), m 6 11])))))))
 (.seq (.reg [m 12 0, m 4 12])
 .ret))), false⟩
end
end Go.Proofs.YtenpedmcbmlmkaaGreatDoor
