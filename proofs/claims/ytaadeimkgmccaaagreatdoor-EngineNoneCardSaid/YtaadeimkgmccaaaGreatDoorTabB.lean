/- The program's functions as the abstract machine's code: what it is compiled to, by program; that it is the compiler's is shown in the text on the environment. -/
import Derived.Test.YtaadeimkgmccaaaGreatDoorZA
namespace Go.Proofs.YtaadeimkgmccaaaGreatDoor
noncomputable section
open Go Go.Abs Go.Abs.T
/-- slices.Grow[[]foreman/api.Node,foreman/api.Node] -/
def a293 : AFn := ⟨27, [.tmp 4],
 (.seq (.reg [o 4 (.mv (.c .nilsl))])
 (.seq (.seq (.reg [m 5 1, o 6 (b .lss (t 5) (k 0))])
 (.cond (t 6)
 (.reg [o 7 (.mkif 9 (.c (.d (.s [99, 97, 110, 110, 111, 116, 32, 98, 101, 32, 110, 101, 103, 97, 116, 105, 118, 101])))), u (.panic (t 7))])
 .skip))
 (.seq (.seq (.reg [m 8 1, m 9 0, o 10 (.cap (t 9)), m 11 0, o 12 (.len 1 (t 11)), o 13 (b .sub (t 10) (t 12)), o 14 (b .sub (t 8) (t 13)), m 1 14])
 (.seq (.reg [m 15 1, o 16 (b .gtr (t 15) (k 0))])
 (.cond (t 16)
 (.reg [m 17 0, m 18 0, o 19 (.cap (t 18)), o 20 (.slSl 16 (t 17) none (some (t 19)) none), m 21 1, o 22 (.appz 83 16 184 [(.d (.s [])), (.d (.s [])), (.d (.i .u8 0)), (.d (.i .i64 0)), (.d (.i .i64 0)), (.d (.i .i64 0)), .nilsl, (.d (.i .i64 0)), (.d (.i .i64 0)), (.d (.i .u8 0)), (.d (.i .i64 0)), (.d (.i .i64 0)), (.d (.i .u8 0)), (.d (.i .i64 0)), (.d (.s [])), .nilsl] (t 20) (t 21)), m 23 0, o 24 (.len 1 (t 23)), o 25 (.slSl 16 (t 22) none (some (t 24)) none), m 0 25])
 .skip)))
 (.seq (.reg [m 26 0, m 4 26])
 .ret)))), false⟩
/-- foreman/bundle.Fits -/
def a294 : AFn := ⟨21, [.tmp 6],
 (.seq (.reg [o 6 (.mv (k 0))])
 (.seq (.seq (.reg [m 9 0, o 10 (.callf 52 [(t 9)]), o 11 (.bin .eql .ptr (t 10) (.c (.d .nilp)))])
 (.cond (t 11)
 (.seq (.reg [o 6 (.mv (k 1))])
 .ret)
 .skip))
 (.seq (.reg [m 13 0, o 14 (.callf 52 [(t 13)]), m 15 1, m 16 2, o 17 (.callf 296 [(t 14), (t 15), (t 16)]), m 12 17, o 18 (.extr (t 12) 0), o 19 (.extr (t 12) 1), m 7 18, m 8 19])
 (.seq (.reg [m 20 8, m 6 20])
 .ret)))), false⟩
/-- (*foreman/order.Order).List -/
def a295 : AFn := ⟨10, [.tmp 2],
 (.seq (.reg [o 2 (.mv (.c .nilsl))])
 (.seq (.seq (.reg [m 3 0, o 4 (.callf 82 [(t 3)])])
 (.cond (t 4)
 (.seq (.reg [o 2 (.mv (.c .nilsl))])
 .ret)
 .skip))
 (.seq (.reg [m 5 0, o 6 (.nilchk (t 5)), o 7 (.fadd 2 (t 6)), l 8 7, o 9 (.clone 80 3 1 8 false (t 8)), m 2 9])
 .ret))), false⟩
/-- foreman/bundle.grow -/
def a296 : AFn := ⟨42, [.tmp 6, .tmp 7],
 (.seq (.reg [o 6 (.mv (k 0)), o 7 (.mv (k 0))])
 (.seq (.seq (.reg [m 13 0, m 14 1, o 15 (.callf 265 [(t 13), (t 14)]), m 8 15])
 (.seq (.reg [m 16 8, o 17 (b .neq (t 16) (k 0))])
 (.cond (t 17)
 (.seq (.reg [m 18 8, o 6 (.mv (k 0)), m 7 18])
 .ret)
 .skip)))
 (.seq (.seq (.reg [m 19 2, o 20 (.len 1 (t 19)), o 21 (.mv (k 0))])
 (.blk 0 (.loop (.seq (.reg [o 22 (b .lss (t 21) (t 20))])
 (.seq (.cond (t 22)
 .skip
 (.exit 0))
 (.seq (.blk 1 (.seq (.reg [m 23 21, o 24 (.iaS 2 (t 19) (t 21)), o 25 (.load true 2 (t 24)), o 10 (.alloc 380 [(.d (.i .i64 0)), (.d (.i .i64 0))]), m 9 23, u (.store 2 (t 10) (t 25))])
 (.seq (.reg [m 27 0, o 28 (.fadd 0 (t 10)), l 29 28, o 30 (.fadd 1 (t 10)), l 31 30, o 32 (.callf 353 [(t 27), (t 29), (t 31)]), m 26 32, o 33 (.extr (t 26) 0), o 34 (.extr (t 26) 1), m 11 33, m 12 34])
 (.seq (.reg [m 35 12, o 36 (b .neq (t 35) (k 0))])
 (.cond (t 36)
 (.seq (.reg [m 37 9, m 38 12, m 6 37, m 7 38])
 .ret)
 .skip)))))
 (.reg [o 39 (b .add (t 21) (k 1)), m 21 39])))))))
 (.seq (.reg [m 40 2, o 41 (.len 1 (t 40)), m 6 41, o 7 (.mv (k 0))])
 .ret)))), false⟩
/-- (*foreman/order.Order).Place -/
def a297 : AFn := ⟨17, [.tmp 4, .tmp 5],
 (.seq (.reg [o 4 (.mv (k 0)), o 5 (.mv (.c (.d (.b false))))])
 (.seq (.seq (.reg [m 6 0, m 7 1, o 8 (.callf 354 [(t 6), (t 7)]), o 9 (.un .not (t 8))])
 (.cond (t 9)
 (.seq (.reg [o 4 (.mv (k 0)), o 5 (.mv (.c (.d (.b false))))])
 .ret)
 .skip))
 (.seq (.reg [m 10 0, o 11 (.nilchk (t 10)), o 12 (.fadd 1 (t 11)), l 13 12, m 14 1, o 15 (.iaS 1 (t 13) (t 14)), l 16 15, m 4 16, o 5 (.mv (.c (.d (.b true))))])
 .ret))), false⟩
/-- foreman/flow.start -/
def a298 : AFn := ⟨5, [.tmp 2],
 (.seq (.reg [o 2 (.mv (k 0))])
 (.seq (.reg [m 3 0, o 4 (b .mul (k 2) (t 3)), m 2 4])
 .ret)), false⟩
/-- foreman/flow.end -/
def a299 : AFn := ⟨6, [.tmp 2],
 (.seq (.reg [o 2 (.mv (k 0))])
 (.seq (.reg [m 3 0, o 4 (b .mul (k 2) (t 3)), o 5 (b .add (t 4) (k 1)), m 2 5])
 .ret)), false⟩
/-- foreman/join.due -/
def a300 : AFn := ⟨28, [.tmp 4],
 (.seq (.reg [o 2 (.box 49 (t 0)), o 4 (.mv (.c (.d (.b false))))])
 (.seq (.seq (.reg [o 5 (.fadd 6 (t 2)), l 6 5, m 7 1, o 8 (.iaS 16 (t 6) (t 7)), o 9 (.fadd 9 (t 8)), l 10 9])
 (.blk 0 (.seq (.reg [o 12 (b .eql (t 10) (.c (.d (.i .u8 0)))), m 11 12])
 (.cond (t 11)
 (.seq (.dreg 0 [⟨o 13 (.load true 8 (t 2)), 0, false, [], none⟩, ⟨o 14 (.fadd 6 (t 2)), 1, false, [], none⟩, ⟨l 15 14, 2, false, [], none⟩, ⟨m 16 1, 3, false, [], none⟩, ⟨o 17 (.iaS 16 (t 15) (t 16)), 4, false, [], none⟩, ⟨o 18 (.fadd 6 (t 17)), 5, false, [], none⟩, ⟨l 19 18, 6, false, [], none⟩, ⟨o 20 (.callf 355 [(t 13), (t 19)]), 7, true, [], none⟩, ⟨m 4 20, 8, false, [7], none⟩])
 .ret)
 (.seq (.reg [o 22 (b .eql (t 10) (.c (.d (.i .u8 3)))), m 21 22])
 (.cond (t 21)
 (.seq (.dreg 0 [⟨o 24 (.load true 8 (t 2)), 1, false, [], none⟩, ⟨m 25 1, 2, false, [], none⟩, ⟨o 26 (.callf 356 [(t 24), (t 25)]), 3, true, [], none⟩, ⟨o 23 (.load true 8 (t 2)), 0, false, [], none⟩, ⟨o 27 (.callf 355 [(t 23), (t 26)]), 4, true, [], none⟩, ⟨m 4 27, 5, false, [4, 3], none⟩])
 .ret)
 .skip))))))
 (.seq (.reg [o 4 (.mv (.c (.d (.b false))))])
 .ret))), false⟩
/-- (*foreman/graph.Graph).Len -/
def a303 : AFn := ⟨10, [.tmp 2],
 (.seq (.reg [o 2 (.mv (k 0))])
 (.seq (.seq (.reg [m 3 0, o 4 (.callf 128 [(t 3)])])
 (.cond (t 4)
 (.seq (.reg [o 2 (.mv (k 0))])
 .ret)
 .skip))
 (.seq (.reg [m 5 0, o 6 (.nilchk (t 5)), o 7 (.fadd 1 (t 6)), l 8 7, o 9 (.len 1 (t 8)), m 2 9])
 .ret))), false⟩
/-- strings.splitSeq$1 -/
def a306 : AFn := ⟨52, [],
 (.seq (.seq (.reg [l 9 1, o 10 (.len 0 (t 9)), o 11 (b .eql (t 10) (k 0))])
 (.cond (t 11)
 (.seq (.blk 0 (.loop (.seq (.seq (.reg [l 12 2, o 13 (.len 0 (t 12)), o 14 (b .gtr (t 13) (k 0))])
 (.cond (t 14)
 .skip
 (.exit 0)))
 (.blk 1 (.seq (.reg [l 16 2, o 17 (.callf 307 [(t 16)]), m 15 17, o 18 (.extr (t 15) 0), o 19 (.extr (t 15) 1), m 5 18, m 6 19])
 (.seq (.seq (.reg [m 20 0, l 21 2, m 22 6, o 23 (.slStr (t 21) none (some (t 22))), o 24 (.callv (t 20) [(t 23)]), o 25 (.un .not (t 24))])
 (.cond (t 25)
 .ret
 .skip))
 (.reg [l 26 2, m 27 6, o 28 (.slStr (t 26) (some (t 27)) none), u (.store 1 (t 2) (t 28))])))))))
 .ret)
 .skip))
 (.seq (.blk 2 (.loop (.blk 3 (.seq (.reg [l 29 2, l 30 1, o 31 (.callf 308 [(t 29), (t 30)]), m 7 31])
 (.seq (.seq (.reg [m 32 7, o 33 (b .lss (t 32) (k 0))])
 (.cond (t 33)
 (.exit 2)
 .skip))
 (.seq (.reg [l 34 2, m 35 7, l 36 3, o 37 (b .add (t 35) (t 36)), o 38 (.slStr (t 34) none (some (t 37))), m 8 38])
 (.seq (.seq (.reg [m 39 0, m 40 8, o 41 (.callv (t 39) [(t 40)]), o 42 (.un .not (t 41))])
 (.cond (t 42)
 .ret
 .skip))
 (.reg [l 43 2, m 44 7, l 45 1, o 46 (.len 0 (t 45)), o 47 (b .add (t 44) (t 46)), o 48 (.slStr (t 43) (some (t 47)) none), u (.store 1 (t 2) (t 48))]))))))))
 (.reg [m 49 0, l 50 2, o 51 (.callv (t 49) [(t 50)])]))), false⟩
/-- strings.Index -/
def a308 : AFn := ⟨8, [.tmp 4],
 (.seq (.reg [o 4 (.mv (k 0))])
 (.seq (.reg [m 5 0, m 6 1, o 7 (.callf 360 [(t 5), (t 6)]), m 4 7])
 .ret)), false⟩
/-- internal/strconv.Atoi -/
def a309 : AFn := ⟨77, [.tmp 2, .tmp 3],
 (.seq (.reg [o 2 (.mv (k 0)), o 3 (.mv (.c (.d .nili)))])
 (.seq (.reg [m 11 0, o 12 (.len 0 (t 11)), m 4 12])
 (.seq (.seq (.reg [o 13 (.mv (.c (.d (.b false)))), mg 14 4 13 true, og 15 (b .lss (k 0) (t 14)) 13 true, mg 16 15 13 true, mg 17 4 16 true, og 18 (b .lss (t 17) (k 10)) 16 true, og 19 (.pick (t 16) (t 18) (.c (.d (.b false)))) 13 true, o 20 (.pick (t 13) (t 19) (.c (.d (.b false)))), m 21 20, og 22 (.mv (.c (.d (.b true)))) 21 false, mg 23 4 22 true, og 24 (b .lss (k 0) (t 23)) 22 true, mg 25 24 22 true, mg 26 4 25 true, og 27 (b .lss (t 26) (k 19)) 25 true, og 28 (.pick (t 25) (t 27) (.c (.d (.b false)))) 22 true, og 29 (.pick (t 22) (t 28) (.c (.d (.b false)))) 21 false, o 30 (.pick (t 21) (.c (.d (.b true))) (t 29))])
 (.cond (t 30)
 (.seq (.reg [m 31 0, m 5 31])
 (.seq (.seq (.reg [m 32 0, o 33 (.ixS (t 32) (k 0)), o 34 (b .eql (t 33) (.c (.d (.i .u8 45)))), m 35 34, mg 36 0 35 false, og 37 (.ixS (t 36) (k 0)) 35 false, og 38 (b .eql (t 37) (.c (.d (.i .u8 43)))) 35 false, o 39 (.pick (t 35) (.c (.d (.b true))) (t 38))])
 (.cond (t 39)
 (.seq (.reg [m 40 0, o 41 (.slStr (t 40) (some (k 1)) none), m 0 41])
 (.seq (.reg [m 42 0, o 43 (.len 0 (t 42)), o 44 (b .lss (t 43) (k 1))])
 (.cond (t 44)
 (.seq (.reg [o 45 (.mkif 424 (k 2)), o 2 (.mv (k 0)), m 3 45])
 .ret)
 .skip)))
 .skip))
 (.seq (.reg [o 6 (.mv (k 0))])
 (.seq (.seq (.reg [m 46 0, o 47 (.s2b 5 (t 46)), o 48 (.len 1 (t 47)), o 49 (.mv (k 0))])
 (.blk 0 (.loop (.seq (.reg [o 50 (b .lss (t 49) (t 48))])
 (.seq (.cond (t 50)
 .skip
 (.exit 0))
 (.seq (.blk 1 (.seq (.reg [o 51 (.iaS 1 (t 47) (t 49)), l 52 51, m 8 52])
 (.seq (.reg [m 53 8, o 54 (b .sub (t 53) (.c (.d (.i .u8 48)))), m 8 54])
 (.seq (.seq (.reg [m 55 8, o 56 (b .gtr (t 55) (.c (.d (.i .u8 9))))])
 (.cond (t 56)
 (.seq (.reg [o 57 (.mkif 424 (k 2)), o 2 (.mv (k 0)), m 3 57])
 .ret)
 .skip))
 (.reg [m 58 6, o 59 (b .mul (t 58) (k 10)), m 60 8, o 61 (.cvi .i64 (t 60)), o 62 (b .add (t 59) (t 61)), m 6 62])))))
 (.reg [o 63 (b .add (t 49) (k 1)), m 49 63])))))))
 (.seq (.seq (.reg [m 64 5, o 65 (.ixS (t 64) (k 0)), o 66 (b .eql (t 65) (.c (.d (.i .u8 45))))])
 (.cond (t 66)
 (.reg [m 67 6, o 68 (.un .neg (t 67)), m 6 68])
 .skip))
 (.seq (.reg [m 69 6, m 2 69, o 3 (.mv (.c (.d .nili)))])
 .ret))))))
 .skip))
 (.seq (.reg [m 71 0, o 72 (.callf 361 [(t 71), (k 10), (k 0)]), m 70 72, o 73 (.extr (t 70) 0), o 74 (.extr (t 70) 1), m 9 73, m 10 74])
 (.seq (.reg [m 75 9, m 76 10, m 2 75, m 3 76])
 .ret))))), true⟩
/-- internal/strconv.Itoa -/
def a311 : AFn := ⟨5, [.tmp 2],
 (.seq (.reg [o 2 (.mv (.c (.d (.s []))))])
 (.seq (.reg [m 3 0, o 4 (.callf 366 [(t 3), (k 10)]), m 2 4])
 .ret)), false⟩
/-- foreman/scope.place -/
def a314 : AFn := ⟨13, [.tmp 4],
 (.seq (.reg [o 4 (.mv (.c (.d (.b false))))])
 (.seq (.reg [m 5 1, o 6 (b .geq (t 5) (k 0)), m 7 6, mg 8 1 7 true, mg 9 0 7 true, og 10 (.len 1 (t 9)) 7 true, og 11 (b .lss (t 8) (t 10)) 7 true, o 12 (.pick (t 7) (t 11) (.c (.d (.b false)))), m 4 12])
 .ret)), false⟩
/-- slices.Values[[]byte,byte]$1 -/
def a316 : AFn := ⟨16, [],
 (.seq (.reg [l 5 1, o 6 (.len 1 (t 5)), o 7 (.mv (k 0))])
 (.blk 0 (.loop (.seq (.reg [o 8 (b .lss (t 7) (t 6))])
 (.seq (.cond (t 8)
 .skip
 (.exit 0))
 (.seq (.blk 1 (.seq (.reg [o 9 (.iaS 1 (t 5) (t 7)), l 10 9, m 4 10])
 (.seq (.reg [m 11 0, m 12 4, o 13 (.callv (t 11) [(t 12)]), o 14 (.un .not (t 13))])
 (.cond (t 14)
 .ret
 .skip))))
 (.reg [o 15 (b .add (t 7) (k 1)), m 7 15]))))))), false⟩
/-- foreman/crc.through -/
def a317 : AFn := ⟨13, [.tmp 4],
 (.seq (.reg [o 4 (.mv (.c (.d (.i .u32 0))))])
 (.seq (.reg [m 5 0, o 6 (.cvi .u8 (t 5)), m 7 1, o 8 (b .xor (t 6) (t 7)), o 9 (.callf 368 [(t 8)]), m 10 0, o 11 (b .shr (t 10) (.c (.d (.i .u64 8)))), o 12 (b .xor (t 9) (t 11)), m 4 12])
 .ret)), false⟩
/-- slices.ContainsFunc[[]foreman/snap.field,foreman/snap.field] -/
def a318 : AFn := ⟨9, [.tmp 4],
 (.seq (.reg [o 4 (.mv (.c (.d (.b false))))])
 (.seq (.reg [m 5 0, m 6 1, o 7 (.callf 369 [(t 5), (t 6)]), o 8 (b .geq (t 7) (k 0)), m 4 8])
 .ret)), false⟩
/-- foreman/snap.fit$1 -/
def a319 : AFn := ⟨19, [.tmp 2],
 (.seq (.reg [o 1 (.box 357 (t 0)), o 2 (.mv (.c (.d (.b false))))])
 (.seq (.dreg 0 [⟨o 3 (.fadd 0 (t 1)), 0, false, [], none⟩, ⟨l 4 3, 1, false, [], none⟩, ⟨o 5 (.nilchk (t 4)), 2, false, [], none⟩, ⟨l 6 5, 3, false, [], none⟩, ⟨o 7 (.fadd 1 (t 1)), 4, false, [], none⟩, ⟨l 8 7, 5, false, [], none⟩, ⟨o 9 (b .lss (t 6) (t 8)), 6, false, [], none⟩, ⟨m 10 9, 7, false, [], none⟩, ⟨og 11 (.fadd 0 (t 1)) 10 false, 8, false, [], none⟩, ⟨lg 12 11 10 false, 9, false, [], none⟩, ⟨og 13 (.nilchk (t 12)) 10 false, 10, false, [], none⟩, ⟨lg 14 13 10 false, 11, false, [], none⟩, ⟨og 15 (.fadd 2 (t 1)) 10 false, 12, false, [], none⟩, ⟨lg 16 15 10 false, 13, false, [], none⟩, ⟨og 17 (b .gtr (t 14) (t 16)) 10 false, 14, false, [], none⟩, ⟨o 18 (.pick (t 10) (.c (.d (.b true))) (t 17)), 15, false, [], none⟩, ⟨m 2 18, 16, false, [], none⟩])
 .ret)), false⟩
/-- slices.ContainsFunc[[]int,int] -/
def a321 : AFn := ⟨9, [.tmp 4],
 (.seq (.reg [o 4 (.mv (.c (.d (.b false))))])
 (.seq (.reg [m 5 0, m 6 1, o 7 (.callf 370 [(t 5), (t 6)]), o 8 (b .geq (t 7) (k 0)), m 4 8])
 .ret)), false⟩
/-- (*foreman/graph.Graph).Grow -/
def a324 : AFn := ⟨30, [.tmp 4],
 (.seq (.reg [o 4 (.mv (k 0))])
 (.seq (.blk 0 (.seq (.reg [m 6 0, o 7 (.callf 128 [(t 6)]), m 5 7])
 (.cond (t 5)
 (.seq (.reg [o 4 (.mv (k 1))])
 .ret)
 (.seq (.reg [m 9 1, o 10 (b .lss (t 9) (k 0)), m 11 10, mg 12 1 11 false, mg 13 0 11 false, og 14 (.nilchk (t 13)) 11 false, og 15 (.fadd 1 (t 14)) 11 false, lg 16 15 11 false, og 17 (.len 1 (t 16)) 11 false, og 18 (b .sub (k 10000) (t 17)) 11 false, og 19 (b .gtr (t 12) (t 18)) 11 false, o 20 (.pick (t 11) (.c (.d (.b true))) (t 19)), m 8 20])
 (.cond (t 8)
 (.seq (.reg [o 4 (.mv (k 2))])
 .ret)
 .skip)))))
 (.seq (.reg [m 21 0, m 22 0, o 23 (.nilchk (t 22)), o 24 (.fadd 1 (t 23)), l 25 24, m 26 1, o 27 (.appz 214 2 48 [.nilsl, .nilsl] (t 25) (t 26)), o 28 (.nilchk (t 21)), o 29 (.fadd 1 (t 28)), u (.store 1 (t 29) (t 27))])
 (.seq (.reg [o 4 (.mv (k 0))])
 .ret)))), false⟩
/-- foreman/wire.TakeNum -/
def a325 : AFn := ⟨52, [.tmp 2, .tmp 3, .tmp 4],
 (.seq (.reg [o 2 (.mv (k 0)), o 3 (.mv (.c .nilsl)), o 4 (.mv (k 0))])
 (.seq (.reg [o 5 (.mv (.c (.d (.i .u64 0))))])
 (.seq (.seq (.reg [m 9 0, m 10 0, o 11 (.len 1 (t 10)), o 12 (.mn [(t 11), (k 10)]), o 13 (.slSl 1 (t 9) none (some (t 12)) none), o 14 (.len 1 (t 13)), o 15 (.mv (k 0))])
 (.blk 0 (.loop (.seq (.reg [o 16 (b .lss (t 15) (t 14))])
 (.seq (.cond (t 16)
 .skip
 (.exit 0))
 (.seq (.blk 1 (.seq (.reg [m 17 15, o 18 (.iaS 1 (t 13) (t 15)), l 19 18, m 6 17, m 7 19])
 (.seq (.reg [m 20 7, o 21 (b .andNot (t 20) (.c (.d (.i .u8 128)))), o 22 (.cvi .u64 (t 21)), m 8 22])
 (.seq (.seq (.reg [m 23 6, o 24 (b .eql (t 23) (k 9)), m 25 24, mg 26 8 25 true, og 27 (b .gtr (t 26) (.c (.d (.i .u64 1)))) 25 true, o 28 (.pick (t 25) (t 27) (.c (.d (.b false)))), m 29 28, mg 30 7 29 false, og 31 (b .eql (t 30) (.c (.d (.i .u8 0)))) 29 false, mg 32 31 29 false, mg 33 6 32 true, og 34 (b .gtr (t 33) (k 0)) 32 true, og 35 (.pick (t 32) (t 34) (.c (.d (.b false)))) 29 false, o 36 (.pick (t 29) (.c (.d (.b true))) (t 35))])
 (.cond (t 36)
 (.seq (.reg [o 2 (.mv (k 0)), o 3 (.mv (.c .nilsl)), o 4 (.mv (k 30))])
 .ret)
 .skip))
 (.seq (.reg [m 37 5, m 38 8, m 39 6, o 40 (b .mul (k 7) (t 39)), o 41 (b .shl (t 38) (t 40)), o 42 (b .or (t 37) (t 41)), m 5 42])
 (.seq (.reg [m 43 7, o 44 (b .lss (t 43) (.c (.d (.i .u8 128))))])
 (.cond (t 44)
 (.seq (.dreg 0 [⟨m 45 5, 0, false, [], none⟩, ⟨o 46 (.callf 372 [(t 45)]), 1, true, [], none⟩, ⟨m 47 0, 2, false, [], none⟩, ⟨m 48 6, 3, false, [], none⟩, ⟨o 49 (b .add (t 48) (k 1)), 4, false, [], none⟩, ⟨o 50 (.slSl 1 (t 47) (some (t 49)) none none), 5, false, [], none⟩, ⟨m 2 46, 6, false, [1], none⟩, ⟨m 3 50, 7, false, [1], none⟩, ⟨o 4 (.mv (k 0)), 8, false, [1], none⟩])
 .ret)
 .skip)))))))
 (.reg [o 51 (b .add (t 15) (k 1)), m 15 51])))))))
 (.seq (.reg [o 2 (.mv (k 0)), o 3 (.mv (.c .nilsl)), o 4 (.mv (k 30))])
 .ret)))), false⟩
/-- foreman/wire.TakeText -/
def a326 : AFn := ⟨37, [.tmp 4, .tmp 5, .tmp 6],
 (.seq (.reg [o 4 (.mv (.c (.d (.s [])))), o 5 (.mv (.c .nilsl)), o 6 (.mv (k 0))])
 (.seq (.reg [m 11 0, o 12 (.callf 325 [(t 11)]), m 10 12, o 13 (.extr (t 10) 0), o 14 (.extr (t 10) 1), o 15 (.extr (t 10) 2), m 7 13, m 8 14, m 9 15])
 (.seq (.seq (.reg [m 16 9, o 17 (b .neq (t 16) (k 0)), m 18 17, mg 19 7 18 false, og 20 (b .lss (t 19) (k 0)) 18 false, o 21 (.pick (t 18) (.c (.d (.b true))) (t 20)), m 22 21, mg 23 7 22 false, mg 24 1 22 false, mg 25 8 22 false, og 26 (.len 1 (t 25)) 22 false, og 27 (.mn [(t 24), (t 26)]) 22 false, og 28 (b .gtr (t 23) (t 27)) 22 false, o 29 (.pick (t 22) (.c (.d (.b true))) (t 28))])
 (.cond (t 29)
 (.seq (.reg [o 4 (.mv (.c (.d (.s [])))), o 5 (.mv (.c .nilsl)), o 6 (.mv (k 30))])
 .ret)
 .skip))
 (.seq (.dreg 0 [⟨m 30 8, 0, false, [], none⟩, ⟨m 31 7, 1, false, [], none⟩, ⟨o 32 (.slSl 1 (t 30) none (some (t 31)) none), 2, false, [], none⟩, ⟨o 33 (.b2s (t 32)), 3, false, [], none⟩, ⟨m 34 8, 4, false, [], none⟩, ⟨m 35 7, 5, false, [], none⟩, ⟨o 36 (.slSl 1 (t 34) (some (t 35)) none none), 6, false, [], none⟩, ⟨m 4 33, 7, false, [], none⟩, ⟨m 5 36, 8, false, [], none⟩, ⟨o 6 (.mv (k 0)), 9, false, [], none⟩])
 .ret)))), false⟩
/-- foreman/frag.Take -/
def a328 : AFn := ⟨23, [.tmp 2, .tmp 3, .tmp 4],
 (.seq (.reg [o 2 (.mv (.c .nilsl)), o 3 (.mv (.c .nilsl)), o 4 (.mv (k 0))])
 (.seq (.reg [m 7 0, o 8 (.build [.nilsl, (.d (.b false))] [(0, 1, (t 7))]), o 9 (.box 444 (t 8)), m 5 9])
 (.seq (.reg [m 10 5, m 11 5, o 12 (.mkfn (.func 376) [(t 11)] []), o 13 (.callf 375 [(t 10), (k 40), (t 12)]), m 6 13])
 (.seq (.seq (.reg [m 14 5, o 15 (.nilchk (t 14)), o 16 (.fadd 1 (t 15)), l 17 16])
 (.cond (t 17)
 (.seq (.reg [o 2 (.mv (.c .nilsl)), o 3 (.mv (.c .nilsl)), o 4 (.mv (k 30))])
 .ret)
 .skip))
 (.seq (.dreg 0 [⟨m 18 6, 0, false, [], none⟩, ⟨m 19 5, 1, false, [], none⟩, ⟨o 20 (.nilchk (t 19)), 2, false, [], none⟩, ⟨o 21 (.fadd 0 (t 20)), 3, false, [], none⟩, ⟨l 22 21, 4, false, [], none⟩, ⟨m 2 18, 5, false, [], none⟩, ⟨m 3 22, 6, false, [], none⟩, ⟨o 4 (.mv (k 0)), 7, false, [], none⟩])
 .ret))))), false⟩
/-- (*foreman/snap.reader).all$1 -/
def a329 : AFn := ⟨12, [],
 (.seq (.reg [o 2 (.box 357 (t 0))])
 (.dreg 0 [⟨l 5 1, 2, false, [], none⟩, ⟨o 6 (.fadd 1 (t 2)), 3, false, [], none⟩, ⟨l 7 6, 4, false, [], none⟩, ⟨o 8 (.fadd 2 (t 2)), 5, false, [], none⟩, ⟨l 9 8, 6, false, [], none⟩, ⟨o 10 (.callf 269 [(t 5), (t 7), (t 9)]), 7, true, [], none⟩, ⟨o 3 (.fadd 0 (t 2)), 0, false, [], none⟩, ⟨l 4 3, 1, false, [], none⟩, ⟨o 11 (.nilchk (t 4)), 8, false, [7], none⟩, ⟨u (.store 1 (t 11) (t 10)), 9, true, [], none⟩])), false⟩
/-- foreman/wire.groups$1 -/
def a331 : AFn := ⟨20, [],
 (.seq (.reg [l 4 1, o 5 (.callf 332 [(t 4)]), m 3 5])
 (.seq (.blk 0 (.loop (.seq (.seq (.reg [m 6 3, o 7 (b .geq (t 6) (.c (.d (.i .u64 128))))])
 (.cond (t 7)
 .skip
 (.exit 0)))
 (.seq (.blk 1 (.seq (.reg [m 10 0, m 11 3, o 12 (.cvi .u8 (t 11)), o 13 (b .or (t 12) (.c (.d (.i .u8 128)))), o 14 (.callv (t 10) [(t 13)]), o 15 (.un .not (t 14))])
 (.cond (t 15)
 .ret
 .skip)))
 (.reg [m 8 3, o 9 (b .shr (t 8) (.c (.d (.i .u64 7)))), m 3 9])))))
 (.reg [m 16 0, m 17 3, o 18 (.cvi .u8 (t 17)), o 19 (.callv (t 16) [(t 18)])]))), false⟩
/-- foreman/wire.plain -/
def a332 : AFn := ⟨10, [.tmp 2],
 (.seq (.reg [o 2 (.mv (.c (.d (.i .u64 0))))])
 (.seq (.reg [m 3 0, o 4 (.cvi .u64 (t 3)), o 5 (b .shl (t 4) (.c (.d (.i .u64 1)))), m 6 0, o 7 (b .shr (t 6) (.c (.d (.i .u64 63)))), o 8 (.cvi .u64 (t 7)), o 9 (b .xor (t 5) (t 8)), m 2 9])
 .ret)), false⟩
/-- strings.makeASCIISet -/
def a335 : AFn := ⟨21, [.cell 2 true 256, .tmp 3],
 (.seq (.reg [o 2 (.alloc 406 [(.d (.b false)), (.d (.b false)), (.d (.b false)), (.d (.b false)), (.d (.b false)), (.d (.b false)), (.d (.b false)), (.d (.b false)), (.d (.b false)), (.d (.b false)), (.d (.b false)), (.d (.b false)), (.d (.b false)), (.d (.b false)), (.d (.b false)), (.d (.b false)), (.d (.b false)), (.d (.b false)), (.d (.b false)), (.d (.b false)), (.d (.b false)), (.d (.b false)), (.d (.b false)), (.d (.b false)), (.d (.b false)), (.d (.b false)), (.d (.b false)), (.d (.b false)), (.d (.b false)), (.d (.b false)), (.d (.b false)), (.d (.b false)), (.d (.b false)), (.d (.b false)), (.d (.b false)), (.d (.b false)), (.d (.b false)), (.d (.b false)), (.d (.b false)), (.d (.b false)), (.d (.b false)), (.d (.b false)), (.d (.b false)), (.d (.b false)), (.d (.b false)), (.d (.b false)), (.d (.b false)), (.d (.b false)), (.d (.b false)), (.d (.b false)), (.d (.b false)), (.d (.b false)), (.d (.b false)), (.d (.b false)), (.d (.b false)), (.d (.b false)), (.d (.b false)), (.d (.b false)), (.d (.b false)), (.d (.b false)), (.d (.b false)), (.d (.b false)), (.d (.b false)), (.d (.b false)), (.d (.b false)), (.d (.b false)), (.d (.b false)), (.d (.b false)), (.d (.b false)), (.d (.b false)), (.d (.b false)), (.d (.b false)), (.d (.b false)), (.d (.b false)), (.d (.b false)), (.d (.b false)), (.d (.b false)), (.d (.b false)), (.d (.b false)), (.d (.b false)), (.d (.b false)), (.d (.b false)), (.d (.b false)), (.d (.b false)), (.d (.b false)), (.d (.b false)), (.d (.b false)), (.d (.b false)), (.d (.b false)), (.d (.b false)), (.d (.b false)), (.d (.b false)), (.d (.b false)), (.d (.b false)), (.d (.b false)), (.d (.b false)), (.d (.b false)), (.d (.b false)), (.d (.b false)), (.d (.b false)), (.d (.b false)), (.d (.b false)), (.d (.b false)), (.d (.b false)), (.d (.b false)), (.d (.b false)), (.d (.b false)), (.d (.b false)), (.d (.b false)), (.d (.b false)), (.d (.b false)), (.d (.b false)), (.d (.b false)), (.d (.b false)), (.d (.b false)), (.d (.b false)), (.d (.b false)), (.d (.b false)), (.d (.b false)), (.d (.b false)), (.d (.b false)), (.d (.b false)), (.d (.b false)), (.d (.b false)), (.d (.b false)), (.d (.b false)), (.d (.b false)), (.d (.b false)), (.d (.b false)), (.d (.b false)), (.d (.b false)), (.d (.b false)), (.d (.b false)), (.d (.b false)), (.d (.b false)), (.d (.b false)), (.d (.b false)), (.d (.b false)), (.d (.b false)), (.d (.b false)), (.d (.b false)), (.d (.b false)), (.d (.b false)), (.d (.b false)), (.d (.b false)), (.d (.b false)), (.d (.b false)), (.d (.b false)), (.d (.b false)), (.d (.b false)), (.d (.b false)), (.d (.b false)), (.d (.b false)), (.d (.b false)), (.d (.b false)), (.d (.b false)), (.d (.b false)), (.d (.b false)), (.d (.b false)), (.d (.b false)), (.d (.b false)), (.d (.b false)), (.d (.b false)), (.d (.b false)), (.d (.b false)), (.d (.b false)), (.d (.b false)), (.d (.b false)), (.d (.b false)), (.d (.b false)), (.d (.b false)), (.d (.b false)), (.d (.b false)), (.d (.b false)), (.d (.b false)), (.d (.b false)), (.d (.b false)), (.d (.b false)), (.d (.b false)), (.d (.b false)), (.d (.b false)), (.d (.b false)), (.d (.b false)), (.d (.b false)), (.d (.b false)), (.d (.b false)), (.d (.b false)), (.d (.b false)), (.d (.b false)), (.d (.b false)), (.d (.b false)), (.d (.b false)), (.d (.b false)), (.d (.b false)), (.d (.b false)), (.d (.b false)), (.d (.b false)), (.d (.b false)), (.d (.b false)), (.d (.b false)), (.d (.b false)), (.d (.b false)), (.d (.b false)), (.d (.b false)), (.d (.b false)), (.d (.b false)), (.d (.b false)), (.d (.b false)), (.d (.b false)), (.d (.b false)), (.d (.b false)), (.d (.b false)), (.d (.b false)), (.d (.b false)), (.d (.b false)), (.d (.b false)), (.d (.b false)), (.d (.b false)), (.d (.b false)), (.d (.b false)), (.d (.b false)), (.d (.b false)), (.d (.b false)), (.d (.b false)), (.d (.b false)), (.d (.b false)), (.d (.b false)), (.d (.b false)), (.d (.b false)), (.d (.b false)), (.d (.b false)), (.d (.b false)), (.d (.b false)), (.d (.b false)), (.d (.b false)), (.d (.b false)), (.d (.b false)), (.d (.b false)), (.d (.b false)), (.d (.b false)), (.d (.b false)), (.d (.b false)), (.d (.b false)), (.d (.b false)), (.d (.b false)), (.d (.b false)), (.d (.b false)), (.d (.b false)), (.d (.b false)), (.d (.b false)), (.d (.b false)), (.d (.b false)), (.d (.b false)), (.d (.b false)), (.d (.b false)), (.d (.b false))]), o 3 (.mv (.c (.d (.b false))))])
 (.seq (.seq (.reg [o 4 (.mv (k 0))])
 (.blk 0 (.loop (.seq (.seq (.reg [m 6 4, m 7 0, o 8 (.len 0 (t 7)), o 9 (b .lss (t 6) (t 8))])
 (.cond (t 9)
 .skip
 (.exit 0)))
 (.seq (.blk 1 (.seq (.reg [m 12 0, m 13 4, o 14 (.ixS (t 12) (t 13)), m 5 14])
 (.seq (.seq (.reg [m 15 5, o 16 (b .geq (t 15) (.c (.d (.i .u8 128))))])
 (.cond (t 16)
 (.seq (.reg [o 17 (.load true 256 (t 2)), u (.store 256 (t 2) (t 17)), o 3 (.mv (.c (.d (.b false))))])
 .ret)
 .skip))
 (.reg [m 18 5, o 19 (.iaA 256 1 (t 2) (t 18)), u (.store 1 (t 19) (.c (.d (.b true))))]))))
 (.reg [m 10 4, o 11 (b .add (t 10) (k 1)), m 4 11]))))))
 (.seq (.reg [o 20 (.load true 256 (t 2)), u (.store 256 (t 2) (t 20)), o 3 (.mv (.c (.d (.b true))))])
 .ret))), false⟩
/-- strings.trimLeftASCII -/
def a336 : AFn := ⟨16, [.tmp 4],
 (.seq (.reg [o 4 (.mv (.c (.d (.s []))))])
 (.seq (.blk 0 (.loop (.seq (.seq (.reg [m 5 0, o 6 (.len 0 (t 5)), o 7 (b .gtr (t 6) (k 0))])
 (.cond (t 7)
 .skip
 (.exit 0)))
 (.blk 1 (.seq (.seq (.reg [m 8 1, m 9 0, o 10 (.ixS (t 9) (k 0)), o 11 (.callf 377 [(t 8), (t 10)]), o 12 (.un .not (t 11))])
 (.cond (t 12)
 (.exit 0)
 .skip))
 (.reg [m 13 0, o 14 (.slStr (t 13) (some (k 1)) none), m 0 14]))))))
 (.seq (.reg [m 15 0, m 4 15])
 .ret))), false⟩
/-- strings.trimRightASCII -/
def a337 : AFn := ⟨22, [.tmp 4],
 (.seq (.reg [o 4 (.mv (.c (.d (.s []))))])
 (.seq (.blk 0 (.loop (.seq (.seq (.reg [m 5 0, o 6 (.len 0 (t 5)), o 7 (b .gtr (t 6) (k 0))])
 (.cond (t 7)
 .skip
 (.exit 0)))
 (.blk 1 (.seq (.seq (.reg [m 8 1, m 9 0, m 10 0, o 11 (.len 0 (t 10)), o 12 (b .sub (t 11) (k 1)), o 13 (.ixS (t 9) (t 12)), o 14 (.callf 377 [(t 8), (t 13)]), o 15 (.un .not (t 14))])
 (.cond (t 15)
 (.exit 0)
 .skip))
 (.reg [m 16 0, m 17 0, o 18 (.len 0 (t 17)), o 19 (b .sub (t 18) (k 1)), o 20 (.slStr (t 16) none (some (t 19))), m 0 20]))))))
 (.seq (.reg [m 21 0, m 4 21])
 .ret))), false⟩
/-- (foreman/check.asked).has -/
def a340 : AFn := ⟨9, [.tmp 4],
 (.seq (.reg [o 2 (.box 294 (t 0)), o 4 (.mv (.c (.d (.b false))))])
 (.seq (.reg [o 5 (.fadd 8 (t 2)), l 6 5, m 7 1, o 8 (.callf 130 [(t 6), (t 7)]), m 4 8])
 .ret)), false⟩
/-- (foreman/check.asked).wide$1 -/
def a341 : AFn := ⟨14, [.tmp 3],
 (.seq (.reg [o 2 (.box 78 (t 0)), o 3 (.mv (.c (.d (.b false))))])
 (.seq (.reg [o 4 (.load true 6 (t 2)), o 5 (.callf 342 [(t 4)]), m 6 5, og 7 (.fadd 4 (t 2)) 6 true, lg 8 7 6 true, og 9 (.fadd 0 (t 1)) 6 true, og 10 (.fadd 2 (t 9)) 6 true, lg 11 10 6 true, og 12 (b .gtr (t 8) (t 11)) 6 true, o 13 (.pick (t 6) (t 12) (.c (.d (.b false)))), m 3 13])
 .ret)), false⟩
/-- foreman/check.isMap -/
def a342 : AFn := ⟨6, [.tmp 2],
 (.seq (.reg [o 1 (.box 78 (t 0)), o 2 (.mv (.c (.d (.b false))))])
 (.seq (.reg [o 3 (.fadd 1 (t 1)), l 4 3, o 5 (b .eql (t 4) (.c (.d (.i .u8 1)))), m 2 5])
 .ret)), false⟩
/-- (foreman/check.asked).twice$1 -/
def a343 : AFn := ⟨14, [.tmp 3],
 (.seq (.reg [o 2 (.box 78 (t 0)), o 3 (.mv (.c (.d (.b false))))])
 (.seq (.reg [l 4 1, o 5 (.fadd 0 (t 2)), l 6 5, o 7 (.look (.one .s) false [(.d (.i .i64 0))] false (t 4) (t 6)), o 8 (b .add (t 7) (k 1)), u (.mupd (.one .s) (t 4) (t 6) (t 8))])
 (.seq (.reg [l 9 1, o 10 (.fadd 0 (t 2)), l 11 10, o 12 (.look (.one .s) false [(.d (.i .i64 0))] false (t 9) (t 11)), o 13 (b .gtr (t 12) (k 1)), m 3 13])
 .ret))), false⟩
/-- (foreman/check.asked).refers$1 -/
def a344 : AFn := ⟨19, [.tmp 3],
 (.seq (.reg [o 2 (.box 78 (t 0)), o 3 (.mv (.c (.d (.b false))))])
 (.seq (.reg [o 4 (.fadd 2 (t 2)), l 5 4, o 6 (.load true 9 (t 1)), o 7 (.mkfn (.func 345) [(t 6)] []), o 8 (.callf 199 [(t 5), (t 7)]), m 9 8, og 10 (.load true 6 (t 2)) 9 false, og 11 (.callf 342 [(t 10)]) 9 false, mg 12 11 9 false, og 13 (.load true 9 (t 1)) 12 true, og 14 (.fadd 3 (t 2)) 12 true, lg 15 14 12 true, og 16 (.callf 345 [(t 13), (t 15)]) 12 true, og 17 (.pick (t 12) (t 16) (.c (.d (.b false)))) 9 false, o 18 (.pick (t 9) (.c (.d (.b true))) (t 17)), m 3 18])
 .ret)), false⟩
/-- foreman/check.Cost -/
def a346 : AFn := ⟨21, [.tmp 2],
 (.seq (.reg [o 1 (.box 78 (t 0)), o 2 (.mv (k 0))])
 (.seq (.reg [o 3 (.mv (k 1))])
 (.seq (.seq (.reg [o 5 (.fadd 1 (t 1)), l 6 5, o 7 (b .eql (t 6) (.c (.d (.i .u8 1))))])
 (.cond (t 7)
 (.reg [o 8 (.fadd 4 (t 1)), l 9 8, m 3 9])
 .skip))
 (.seq (.reg [m 10 3, o 11 (.fadd 5 (t 1)), l 12 11, o 13 (b .add (k 1) (t 12)), o 14 (b .mul (t 10) (t 13)), m 4 14])
 (.seq (.seq (.reg [o 15 (.fadd 1 (t 1)), l 16 15, o 17 (b .eql (t 16) (.c (.d (.i .u8 1))))])
 (.cond (t 17)
 (.reg [m 18 4, o 19 (b .add (t 18) (k 1)), m 4 19])
 .skip))
 (.seq (.reg [m 20 4, m 2 20])
 .ret)))))), false⟩
/-- (foreman/check.asked).over$1 -/
def a347 : AFn := ⟨59, [.tmp 3],
 (.seq (.reg [o 2 (.box 78 (t 0)), o 3 (.mv (.c (.d (.b false))))])
 (.seq (.seq (.reg [o 7 (.load true 6 (t 2)), o 8 (.callf 342 [(t 7)]), o 9 (.un .not (t 8))])
 (.cond (t 9)
 (.seq (.reg [o 3 (.mv (.c (.d (.b false))))])
 .ret)
 .skip))
 (.seq (.seq (.reg [o 11 (.load true 9 (t 1)), o 12 (.fadd 3 (t 2)), l 13 12, o 14 (.callf 290 [(t 11), (t 13)]), m 10 14, o 15 (.extr (t 10) 0), o 16 (.extr (t 10) 1), o 17 (.extr (t 10) 2), m 4 15, m 5 16, m 6 17])
 (.blk 0 (.seq (.reg [m 19 4, o 20 (b .geq (t 19) (k 0)), m 18 20])
 (.cond (t 18)
 (.seq (.dreg 0 [⟨o 21 (.fadd 8 (t 1)), 0, false, [], none⟩, ⟨l 22 21, 1, false, [], none⟩, ⟨m 23 4, 2, false, [], none⟩, ⟨o 24 (.iaS 6 (t 22) (t 23)), 3, false, [], none⟩, ⟨o 25 (.load true 6 (t 24)), 4, false, [], none⟩, ⟨o 26 (.callf 342 [(t 25)]), 5, true, [], none⟩, ⟨m 27 26, 6, false, [5], none⟩, ⟨og 28 (.fadd 8 (t 1)) 27 true, 7, false, [5], none⟩, ⟨lg 29 28 27 true, 8, false, [5], none⟩, ⟨mg 30 4 27 true, 9, false, [5], none⟩, ⟨og 31 (.iaS 6 (t 29) (t 30)) 27 true, 10, false, [5], none⟩, ⟨og 32 (.fadd 4 (t 31)) 27 true, 11, false, [5], none⟩, ⟨lg 33 32 27 true, 12, false, [5], none⟩, ⟨og 34 (.fadd 4 (t 2)) 27 true, 13, false, [5], none⟩, ⟨lg 35 34 27 true, 14, false, [5], none⟩, ⟨og 36 (b .gtr (t 33) (t 35)) 27 true, 15, false, [5], none⟩, ⟨o 37 (.pick (t 27) (t 36) (.c (.d (.b false)))), 16, false, [5], none⟩, ⟨m 3 37, 17, false, [5], none⟩])
 .ret)
 (.seq (.reg [m 39 5, o 40 (b .geq (t 39) (k 0)), m 38 40])
 (.cond (t 38)
 (.seq (.dreg 0 [⟨o 41 (.fadd 5 (t 1)), 0, false, [], none⟩, ⟨l 42 41, 1, false, [], none⟩, ⟨m 43 5, 2, false, [], none⟩, ⟨o 44 (.iaS 16 (t 42) (t 43)), 3, false, [], none⟩, ⟨o 45 (.fadd 2 (t 44)), 4, false, [], none⟩, ⟨l 46 45, 5, false, [], none⟩, ⟨o 47 (b .eql (t 46) (.c (.d (.i .u8 1)))), 6, false, [], none⟩, ⟨m 48 47, 7, false, [], none⟩, ⟨og 49 (.fadd 5 (t 1)) 48 true, 8, false, [], none⟩, ⟨lg 50 49 48 true, 9, false, [], none⟩, ⟨mg 51 5 48 true, 10, false, [], none⟩, ⟨og 52 (.iaS 16 (t 50) (t 51)) 48 true, 11, false, [], none⟩, ⟨og 53 (.fadd 7 (t 52)) 48 true, 12, false, [], none⟩, ⟨lg 54 53 48 true, 13, false, [], none⟩, ⟨og 55 (.fadd 4 (t 2)) 48 true, 14, false, [], none⟩, ⟨lg 56 55 48 true, 15, false, [], none⟩, ⟨og 57 (b .gtr (t 54) (t 56)) 48 true, 16, false, [], none⟩, ⟨o 58 (.pick (t 48) (t 57) (.c (.d (.b false)))), 17, false, [], none⟩, ⟨m 3 58, 18, false, [], none⟩])
 .ret)
 .skip))))))
 (.seq (.reg [o 3 (.mv (.c (.d (.b false))))])
 .ret)))), false⟩
/-- foreman/ident.Right -/
def a350 : AFn := ⟨14, [.tmp 2],
 (.seq (.reg [o 1 (.box 173 (t 0)), o 2 (.mv (.c (.d (.b false))))])
 (.seq (.reg [o 3 (.mv (.c (.d (.fn (.func 383) [] []))))])
 (.seq (.reg [o 4 (.fadd 0 (t 1)), l 5 4, o 6 (.callf 225 [(t 5)]), m 7 6, og 8 (.fadd 1 (t 1)) 7 true, lg 9 8 7 true, mg 10 3 7 true, og 11 (.callf 384 [(t 9), (t 10)]) 7 true, og 12 (.un .not (t 11)) 7 true, o 13 (.pick (t 7) (t 12) (.c (.d (.b false)))), m 2 13])
 .ret))), false⟩
/-- (*strings.Builder).WriteString -/
def a351 : AFn := ⟨19, [.tmp 4, .tmp 5],
 (.seq (.reg [o 4 (.mv (k 0)), o 5 (.mv (.c (.d .nili)))])
 (.seq (.reg [m 6 0, o 7 (.callf 385 [(t 6)])])
 (.seq (.reg [m 8 0, m 9 0, o 10 (.nilchk (t 9)), o 11 (.fadd 1 (t 10)), l 12 11, m 13 1, o 14 (.app 5 1 1 false (t 12) (t 13)), o 15 (.nilchk (t 8)), o 16 (.fadd 1 (t 15)), u (.store 1 (t 16) (t 14))])
 (.seq (.reg [m 17 1, o 18 (.len 0 (t 17)), m 4 18, o 5 (.mv (.c (.d .nili)))])
 .ret)))), true⟩
/-- (*strings.Builder).String -/
def a352 : AFn := ⟨14, [.tmp 2],
 (.seq (.reg [o 2 (.mv (.c (.d (.s []))))])
 (.seq (.dreg 0 [⟨m 3 0, 0, false, [], none⟩, ⟨o 4 (.nilchk (t 3)), 1, false, [], none⟩, ⟨o 5 (.fadd 1 (t 4)), 2, false, [], none⟩, ⟨l 6 5, 3, false, [], none⟩, ⟨o 7 (.ssd (t 6)), 4, true, [], none⟩, ⟨m 8 0, 5, false, [], none⟩, ⟨o 9 (.nilchk (t 8)), 6, false, [], none⟩, ⟨o 10 (.fadd 1 (t 9)), 7, false, [], none⟩, ⟨l 11 10, 8, false, [], none⟩, ⟨o 12 (.len 1 (t 11)), 9, false, [], none⟩, ⟨o 13 (.uss 5 (t 7) (t 12)), 10, true, [], none⟩, ⟨m 2 13, 11, false, [10, 4], none⟩])
 .ret)), false⟩
/-- (*foreman/order.Order).Put -/
def a353 : AFn := ⟨69, [.tmp 6, .tmp 7],
 (.seq (.reg [o 6 (.mv (k 0)), o 7 (.mv (k 0))])
 (.seq (.blk 0 (.seq (.reg [m 14 0, o 15 (.callf 82 [(t 14)]), m 13 15])
 (.cond (t 13)
 (.seq (.reg [o 6 (.mv (k 0)), o 7 (.mv (k 1))])
 .ret)
 (.seq (.reg [m 17 0, m 18 1, o 19 (.callf 354 [(t 17), (t 18)]), o 20 (.un .not (t 19)), m 21 20, mg 22 0 21 false, mg 23 2 21 false, og 24 (.callf 354 [(t 22), (t 23)]) 21 false, og 25 (.un .not (t 24)) 21 false, o 26 (.pick (t 21) (.c (.d (.b true))) (t 25)), m 16 26])
 (.cond (t 16)
 (.seq (.reg [o 6 (.mv (k 0)), o 7 (.mv (k 2))])
 .ret)
 (.seq (.reg [m 28 1, m 29 2, o 30 (b .eql (t 28) (t 29)), m 27 30])
 (.cond (t 27)
 (.seq (.reg [o 6 (.mv (k 0)), o 7 (.mv (k 25))])
 .ret)
 .skip)))))))
 (.seq (.reg [o 8 (.mv (k 0))])
 (.seq (.seq (.dreg 0 [⟨m 31 0, 0, false, [], none⟩, ⟨o 32 (.nilchk (t 31)), 1, false, [], none⟩, ⟨o 33 (.fadd 1 (t 32)), 2, false, [], none⟩, ⟨l 34 33, 3, false, [], none⟩, ⟨m 35 1, 4, false, [], none⟩, ⟨o 36 (.iaS 1 (t 34) (t 35)), 5, false, [], none⟩, ⟨l 37 36, 6, false, [], none⟩, ⟨m 38 0, 7, false, [], none⟩, ⟨o 39 (.nilchk (t 38)), 8, false, [], none⟩, ⟨o 40 (.fadd 1 (t 39)), 9, false, [], none⟩, ⟨l 41 40, 10, false, [], none⟩, ⟨m 42 2, 11, false, [], none⟩, ⟨o 43 (.iaS 1 (t 41) (t 42)), 12, false, [], none⟩, ⟨l 44 43, 13, false, [], none⟩, ⟨o 45 (b .gtr (t 37) (t 44)), 14, false, [], none⟩])
 (.cond (t 45)
 (.seq (.reg [m 47 0, m 48 1, m 49 2, o 50 (.callf 386 [(t 47), (t 48), (t 49)]), m 46 50, o 51 (.extr (t 46) 0), o 52 (.extr (t 46) 1), m 9 51, m 10 52])
 (.seq (.seq (.reg [m 53 10, o 54 (b .neq (t 53) (k 0))])
 (.cond (t 54)
 (.seq (.reg [m 55 10, o 6 (.mv (k 0)), m 7 55])
 .ret)
 .skip))
 (.reg [m 56 9, m 8 56])))
 .skip))
 (.seq (.reg [m 58 0, o 59 (.nilchk (t 58)), o 60 (.fadd 0 (t 59)), l 61 60, m 62 1, m 63 2, o 64 (.callf 387 [(t 61), (t 62), (t 63)]), m 57 64, o 65 (.extr (t 57) 0), o 66 (.extr (t 57) 1), m 11 65, m 12 66])
 (.seq (.reg [m 67 8, m 68 12, m 6 67, m 7 68])
 .ret)))))), false⟩
/-- (*foreman/order.Order).is -/
def a354 : AFn := ⟨13, [.tmp 4],
 (.seq (.reg [o 4 (.mv (.c (.d (.b false))))])
 (.seq (.reg [m 5 1, o 6 (b .geq (t 5) (k 0)), m 7 6, mg 8 1 7 true, mg 9 0 7 true, og 10 (.callf 216 [(t 9)]) 7 true, og 11 (b .lss (t 8) (t 10)) 7 true, o 12 (.pick (t 7) (t 11) (.c (.d (.b false)))), m 4 12])
 .ret)), false⟩
/-- foreman/join.done -/
def a355 : AFn := ⟨9, [.tmp 4],
 (.seq (.reg [o 2 (.box 49 (t 0)), o 4 (.mv (.c (.d (.b false))))])
 (.seq (.reg [m 5 1, o 6 (.mkfn (.func 388) [] [(t 2)]), o 7 (.callf 321 [(t 5), (t 6)]), o 8 (.un .not (t 7)), m 4 8])
 .ret)), false⟩
/-- internal/stringslite.Index -/
def a360 : AFn := ⟨143, [.tmp 4],
 (.seq (.reg [o 4 (.mv (k 0))])
 (.seq (.reg [m 14 1, o 15 (.len 0 (t 14)), m 5 15])
 (.seq (.blk 0 (.seq (.reg [m 17 5, o 18 (b .eql (t 17) (k 0)), m 19 18, mg 20 1 19 false, mg 21 0 19 false, og 22 (b .eql (t 20) (t 21)) 19 false, o 23 (.pick (t 19) (.c (.d (.b true))) (t 22)), m 16 23])
 (.cond (t 16)
 (.seq (.reg [o 4 (.mv (k 0))])
 .ret)
 (.seq (.reg [m 25 5, o 26 (b .eql (t 25) (k 1)), m 24 26])
 (.cond (t 24)
 (.seq (.reg [m 27 0, m 28 1, o 29 (.ixS (t 28) (k 0)), o 30 (.callf 390 [(t 27), (t 29)]), m 4 30])
 .ret)
 (.seq (.reg [m 32 5, m 33 0, o 34 (.len 0 (t 33)), o 35 (b .geq (t 32) (t 34)), m 31 35])
 (.cond (t 31)
 (.seq (.reg [o 4 (.mv (k (-1)))])
 .ret)
 (.seq (.reg [m 37 5, o 38 (.load false 1 (.c (.glob 3 0))), o 39 (b .leq (t 37) (t 38)), m 40 39, mg 41 0 40 true, og 42 (.len 0 (t 41)) 40 true, og 43 (b .leq (t 42) (k 64)) 40 true, o 44 (.pick (t 40) (t 43) (.c (.d (.b false)))), m 36 44])
 (.cond (t 36)
 (.seq (.reg [m 45 0, m 46 1, o 47 (.prim 391 .index [(t 45), (t 46)]), m 4 47])
 .ret)
 .skip)))))))))
 (.seq (.reg [m 48 1, o 49 (.ixS (t 48) (k 0)), m 6 49])
 (.seq (.reg [m 50 1, o 51 (.ixS (t 50) (k 1)), m 7 51])
 (.seq (.reg [o 8 (.mv (k 0))])
 (.seq (.reg [m 52 0, o 53 (.len 0 (t 52)), m 54 5, o 55 (b .sub (t 53) (t 54)), o 56 (b .add (t 55) (k 1)), m 9 56])
 (.seq (.reg [o 10 (.mv (k 0))])
 (.seq (.blk 1 (.loop (.seq (.seq (.reg [m 57 8, m 58 9, o 59 (b .lss (t 57) (t 58))])
 (.cond (t 59)
 .skip
 (.exit 1)))
 (.blk 2 (.seq (.seq (.reg [m 60 0, m 61 8, o 62 (.ixS (t 60) (t 61)), m 63 6, o 64 (b .neq (t 62) (t 63))])
 (.cond (t 64)
 (.seq (.reg [m 65 0, m 66 8, o 67 (b .add (t 66) (k 1)), m 68 9, o 69 (.slStr (t 65) (some (t 67)) (some (t 68))), m 70 6, o 71 (.callf 390 [(t 69), (t 70)]), m 11 71])
 (.seq (.seq (.reg [m 72 11, o 73 (b .lss (t 72) (k 0))])
 (.cond (t 73)
 (.seq (.reg [o 4 (.mv (k (-1)))])
 .ret)
 .skip))
 (.reg [m 74 8, m 75 11, o 76 (b .add (t 75) (k 1)), o 77 (b .add (t 74) (t 76)), m 8 77])))
 .skip))
 (.seq (.seq (.reg [m 78 0, m 79 8, o 80 (b .add (t 79) (k 1)), o 81 (.ixS (t 78) (t 80)), m 82 7, o 83 (b .eql (t 81) (t 82)), m 84 83, mg 85 0 84 true, mg 86 8 84 true, mg 87 8 84 true, mg 88 5 84 true, og 89 (b .add (t 87) (t 88)) 84 true, og 90 (.slStr (t 85) (some (t 86)) (some (t 89))) 84 true, mg 91 1 84 true, og 92 (b .eql (t 90) (t 91)) 84 true, o 93 (.pick (t 84) (t 92) (.c (.d (.b false))))])
 (.cond (t 93)
 (.seq (.reg [m 94 8, m 4 94])
 .ret)
 .skip))
 (.seq (.reg [m 95 8, o 96 (b .add (t 95) (k 1)), m 8 96])
 (.seq (.reg [m 97 10, o 98 (b .add (t 97) (k 1)), m 10 98])
 (.seq (.reg [m 99 5, o 100 (.load false 1 (.c (.glob 3 0))), o 101 (b .leq (t 99) (t 100)), m 102 101, mg 103 10 102 true, mg 104 8 102 true, og 105 (.callf 392 [(t 104)]) 102 true, og 106 (b .gtr (t 103) (t 105)) 102 true, o 107 (.pick (t 102) (t 106) (.c (.d (.b false))))])
 (.cond (t 107)
 (.seq (.reg [m 108 0, m 109 8, o 110 (.slStr (t 108) (some (t 109)) none), m 111 1, o 112 (.prim 391 .index [(t 110), (t 111)]), m 12 112])
 (.seq (.seq (.reg [m 113 12, o 114 (b .geq (t 113) (k 0))])
 (.cond (t 114)
 (.seq (.reg [m 115 12, m 116 8, o 117 (b .add (t 115) (t 116)), m 4 117])
 .ret)
 .skip))
 (.seq (.reg [o 4 (.mv (k (-1)))])
 .ret)))
 (.seq (.reg [m 118 5, o 119 (.load false 1 (.c (.glob 3 0))), o 120 (b .gtr (t 118) (t 119)), m 121 120, mg 122 10 121 true, mg 123 8 121 true, og 124 (b .shr (t 123) (.c (.d (.i .u64 4)))) 121 true, og 125 (b .add (k 4) (t 124)) 121 true, og 126 (b .geq (t 122) (t 125)) 121 true, o 127 (.pick (t 121) (t 126) (.c (.d (.b false)))), m 128 127, mg 129 8 128 true, mg 130 9 128 true, og 131 (b .lss (t 129) (t 130)) 128 true, o 132 (.pick (t 128) (t 131) (.c (.d (.b false))))])
 (.cond (t 132)
 (.seq (.reg [m 133 0, m 134 8, o 135 (.slStr (t 133) (some (t 134)) none), m 136 1, o 137 (.callf 393 [(t 135), (t 136)]), m 13 137])
 (.seq (.seq (.reg [m 138 13, o 139 (b .lss (t 138) (k 0))])
 (.cond (t 139)
 (.seq (.reg [o 4 (.mv (k (-1)))])
 .ret)
 .skip))
 (.seq (.reg [m 140 8, m 141 13, o 142 (b .add (t 140) (t 141)), m 4 142])
 .ret)))
 .skip))))))))))))
 (.seq (.reg [o 4 (.mv (k (-1)))])
 .ret)))))))))), false⟩
/-- internal/strconv.FormatInt -/
def a366 : AFn := ⟨54, [.tmp 4],
 (.seq (.reg [o 4 (.mv (.c (.d (.s []))))])
 (.seq (.seq (.reg [m 10 1, o 11 (b .eql (t 10) (k 10))])
 (.cond (t 11)
 (.seq (.seq (.reg [m 12 0, o 13 (b .leq (k 0) (t 12)), m 14 13, mg 15 0 14 true, og 16 (b .lss (t 15) (k 100)) 14 true, o 17 (.pick (t 14) (t 16) (.c (.d (.b false))))])
 (.cond (t 17)
 (.seq (.reg [m 18 0, o 19 (.callf 397 [(t 18)]), m 4 19])
 .ret)
 .skip))
 (.seq (.reg [o 5 (.alloc 472 [(.d (.i .u8 0)), (.d (.i .u8 0)), (.d (.i .u8 0)), (.d (.i .u8 0)), (.d (.i .u8 0)), (.d (.i .u8 0)), (.d (.i .u8 0)), (.d (.i .u8 0)), (.d (.i .u8 0)), (.d (.i .u8 0)), (.d (.i .u8 0)), (.d (.i .u8 0)), (.d (.i .u8 0)), (.d (.i .u8 0)), (.d (.i .u8 0)), (.d (.i .u8 0)), (.d (.i .u8 0)), (.d (.i .u8 0)), (.d (.i .u8 0)), (.d (.i .u8 0)), (.d (.i .u8 0)), (.d (.i .u8 0)), (.d (.i .u8 0)), (.d (.i .u8 0))])])
 (.seq (.reg [m 20 0, o 21 (.cvi .u64 (t 20)), m 6 21])
 (.seq (.seq (.reg [m 22 0, o 23 (b .lss (t 22) (k 0))])
 (.cond (t 23)
 (.reg [m 24 6, o 25 (.un .neg (t 24)), m 6 25])
 .skip))
 (.seq (.reg [m 26 6, o 27 (.callf 398 [(t 26)]), m 7 27])
 (.seq (.reg [m 28 7, o 29 (b .add (k 1) (t 28)), o 30 (.slArr 24 1 (t 5) (some (k 1)) (some (t 29)) none), m 31 6, o 32 (.callf 399 [(t 30), (t 31)])])
 (.seq (.seq (.reg [m 33 0, o 34 (b .lss (t 33) (k 0))])
 (.cond (t 34)
 (.seq (.reg [o 35 (.iaA 24 1 (t 5) (k 0)), u (.store 1 (t 35) (.c (.d (.i .u8 45))))])
 (.seq (.reg [m 36 7, o 37 (b .add (k 1) (t 36)), o 38 (.slArr 24 1 (t 5) none (some (t 37)) none), o 39 (.b2s (t 38)), m 4 39])
 .ret))
 .skip))
 (.seq (.reg [m 40 7, o 41 (b .add (k 1) (t 40)), o 42 (.slArr 24 1 (t 5) (some (k 1)) (some (t 41)) none), o 43 (.b2s (t 42)), m 4 43])
 .ret))))))))
 .skip))
 (.seq (.reg [m 45 0, o 46 (.cvi .u64 (t 45)), m 47 1, m 48 0, o 49 (b .lss (t 48) (k 0)), o 50 (.callf 400 [(.c .nilsl), (t 46), (t 47), (t 49), (.c (.d (.b false)))]), m 44 50, o 51 (.extr (t 44) 0), o 52 (.extr (t 44) 1), m 8 51, m 9 52])
 (.seq (.reg [m 53 9, m 4 53])
 .ret)))), false⟩
/-- foreman/crc.Table -/
def a368 : AFn := ⟨7, [.tmp 2],
 (.seq (.reg [o 2 (.mv (.c (.d (.i .u32 0))))])
 (.seq (.reg [o 3 (.callf 401 [(k 8), (.c (.d (.fn (.func 402) [] [])))]), m 4 0, o 5 (.cvi .u32 (t 4)), o 6 (.callv (t 3) [(t 5)]), m 2 6])
 .ret)), false⟩
/-- slices.IndexFunc[[]foreman/snap.field,foreman/snap.field] -/
def a369 : AFn := ⟨19, [.tmp 4],
 (.seq (.reg [o 4 (.mv (k 0))])
 (.seq (.seq (.reg [m 6 0, o 7 (.len 1 (t 6)), o 8 (.mv (k 0))])
 (.blk 0 (.loop (.seq (.reg [o 9 (b .lss (t 8) (t 7))])
 (.seq (.cond (t 9)
 .skip
 (.exit 0))
 (.seq (.blk 1 (.seq (.reg [m 10 8, m 5 10])
 (.seq (.reg [m 11 1, m 12 0, m 13 5, o 14 (.iaS 3 (t 12) (t 13)), o 15 (.load true 3 (t 14)), o 16 (.callv (t 11) [(t 15)])])
 (.cond (t 16)
 (.seq (.reg [m 17 5, m 4 17])
 .ret)
 .skip))))
 (.reg [o 18 (b .add (t 8) (k 1)), m 8 18])))))))
 (.seq (.reg [o 4 (.mv (k (-1)))])
 .ret))), false⟩
/-- slices.IndexFunc[[]int,int] -/
def a370 : AFn := ⟨19, [.tmp 4],
 (.seq (.reg [o 4 (.mv (k 0))])
 (.seq (.seq (.reg [m 6 0, o 7 (.len 1 (t 6)), o 8 (.mv (k 0))])
 (.blk 0 (.loop (.seq (.reg [o 9 (b .lss (t 8) (t 7))])
 (.seq (.cond (t 9)
 .skip
 (.exit 0))
 (.seq (.blk 1 (.seq (.reg [m 10 8, m 5 10])
 (.seq (.reg [m 11 1, m 12 0, m 13 5, o 14 (.iaS 1 (t 12) (t 13)), l 15 14, o 16 (.callv (t 11) [(t 15)])])
 (.cond (t 16)
 (.seq (.reg [m 17 5, m 4 17])
 .ret)
 .skip))))
 (.reg [o 18 (b .add (t 8) (k 1)), m 8 18])))))))
 (.seq (.reg [o 4 (.mv (k (-1)))])
 .ret))), false⟩
/-- foreman/wire.signed -/
def a372 : AFn := ⟨11, [.tmp 2],
 (.seq (.reg [o 2 (.mv (k 0))])
 (.seq (.reg [m 3 0, o 4 (b .shr (t 3) (.c (.d (.i .u64 1)))), o 5 (.cvi .i64 (t 4)), m 6 0, o 7 (b .and (t 6) (.c (.d (.i .u64 1)))), o 8 (.cvi .i64 (t 7)), o 9 (.un .neg (t 8)), o 10 (b .xor (t 5) (t 9)), m 2 10])
 .ret)), false⟩
/-- foreman/frag.many[foreman/api.Item] -/
def a375 : AFn := ⟨27, [.tmp 6],
 (.seq (.reg [o 6 (.mv (.c .nilsl))])
 (.seq (.reg [o 7 (.mv (.c .nilsl))])
 (.seq (.seq (.reg [m 9 0, m 10 1, o 11 (.callf 405 [(t 9), (t 10)]), o 12 (.mv (k 0))])
 (.blk 0 (.loop (.seq (.reg [o 13 (b .lss (t 12) (t 11))])
 (.seq (.cond (t 13)
 .skip
 (.exit 0))
 (.seq (.blk 1 (.seq (.reg [m 14 2, o 15 (.callv (t 14) []), o 8 (.alloc 78 [(.d (.s [])), (.d (.i .u8 0)), .nilsl, (.d (.s [])), (.d (.i .i64 0)), (.d (.i .i64 0))]), u (.store 6 (t 8) (t 15))])
 (.seq (.reg [m 16 0, o 17 (.nilchk (t 16)), o 18 (.fadd 1 (t 17)), l 19 18, o 20 (.un .not (t 19))])
 (.cond (t 20)
 (.reg [m 21 7, o 22 (.load true 6 (t 8)), o 23 (.bsl 78 6 1 [(.d (.s [])), (.d (.i .u8 0)), .nilsl, (.d (.s [])), (.d (.i .i64 0)), (.d (.i .i64 0))] [(0, 6, (t 22))]), o 24 (.app 78 6 80 false (t 21) (t 23)), m 7 24])
 .skip))))
 (.reg [o 25 (b .add (t 12) (k 1)), m 12 25])))))))
 (.seq (.reg [m 26 7, m 6 26])
 .ret)))), false⟩
/-- (*foreman/frag.reader).item -/
def a376 : AFn := ⟨40, [.cell 2 true 6],
 (.seq (.reg [o 2 (.alloc 78 [(.d (.s [])), (.d (.i .u8 0)), .nilsl, (.d (.s [])), (.d (.i .i64 0)), (.d (.i .i64 0))])])
 (.seq (.reg [m 4 0, o 5 (.callf 406 [(t 4)]), m 6 0, o 7 (.callf 405 [(t 6), (k 1)]), o 8 (.cvi .u8 (t 7)), o 9 (.build [(.d (.s [])), (.d (.i .u8 0)), .nilsl, (.d (.s [])), (.d (.i .i64 0)), (.d (.i .i64 0))] [(0, 1, (t 5)), (1, 1, (t 8))]), o 3 (.alloc 78 [(.d (.s [])), (.d (.i .u8 0)), .nilsl, (.d (.s [])), (.d (.i .i64 0)), (.d (.i .i64 0))]), u (.store 6 (t 3) (t 9))])
 (.seq (.reg [m 10 0, m 11 0, o 12 (.mkfn (.func 406) [(t 11)] []), o 13 (.callf 407 [(t 10), (k 20), (t 12)]), o 14 (.fadd 2 (t 3)), u (.store 1 (t 14) (t 13))])
 (.seq (.reg [m 15 0, o 16 (.callf 405 [(t 15), (k 400)]), o 17 (.fadd 5 (t 3)), u (.store 1 (t 17) (t 16))])
 (.seq (.seq (.reg [o 18 (.fadd 1 (t 3)), l 19 18, o 20 (b .eql (t 19) (.c (.d (.i .u8 1))))])
 (.cond (t 20)
 (.seq (.reg [m 21 0, o 22 (.callf 406 [(t 21)]), o 23 (.fadd 3 (t 3)), u (.store 1 (t 23) (t 22))])
 (.reg [m 24 0, o 25 (.callf 405 [(t 24), (k 40)]), o 26 (.fadd 4 (t 3)), u (.store 1 (t 26) (t 25))]))
 .skip))
 (.seq (.reg [m 27 0, m 28 0, o 29 (.nilchk (t 28)), o 30 (.fadd 1 (t 29)), l 31 30, m 32 31, og 33 (.load true 6 (t 3)) 32 false, og 34 (.callf 132 [(t 33)]) 32 false, og 35 (.un .not (t 34)) 32 false, o 36 (.pick (t 32) (.c (.d (.b true))) (t 35)), o 37 (.nilchk (t 27)), o 38 (.fadd 1 (t 37)), u (.store 1 (t 38) (t 36))])
 (.seq (.reg [o 39 (.load true 6 (t 3)), u (.store 6 (t 2) (t 39))])
 .ret))))))), false⟩
/-- (*strings.asciiSet).contains -/
def a377 : AFn := ⟨10, [.tmp 4],
 (.seq (.reg [o 4 (.mv (.c (.d (.b false))))])
 (.seq (.reg [m 5 0, m 6 1, o 7 (.nilchk (t 5)), o 8 (.iaA 256 1 (t 7) (t 6)), l 9 8, m 4 9])
 .ret)), false⟩
/-- foreman/ident.Right$1 -/
def a383 : AFn := ⟨18, [.tmp 2],
 (.seq (.reg [o 1 (.box 246 (t 0)), o 2 (.mv (.c (.d (.b false))))])
 (.seq (.reg [o 3 (.fadd 0 (t 1)), l 4 3, o 5 (.callf 197 [(t 4)]), o 6 (.un .not (t 5)), m 7 6, og 8 (.fadd 1 (t 1)) 7 false, lg 9 8 7 false, og 10 (b .neq (t 9) (k (-1))) 7 false, mg 11 10 7 false, og 12 (.fadd 1 (t 1)) 11 true, lg 13 12 11 true, og 14 (.callf 225 [(t 13)]) 11 true, og 15 (.un .not (t 14)) 11 true, og 16 (.pick (t 11) (t 15) (.c (.d (.b false)))) 7 false, o 17 (.pick (t 7) (.c (.d (.b true))) (t 16)), m 2 17])
 .ret)), false⟩
/-- slices.ContainsFunc[[]foreman/api.Step,foreman/api.Step] -/
def a384 : AFn := ⟨9, [.tmp 4],
 (.seq (.reg [o 4 (.mv (.c (.d (.b false))))])
 (.seq (.reg [m 5 0, m 6 1, o 7 (.callf 411 [(t 5), (t 6)]), o 8 (b .geq (t 7) (k 0)), m 4 8])
 .ret)), false⟩
/-- (*strings.Builder).copyCheck -/
def a385 : AFn := ⟨20, [],
 (.seq (.reg [m 2 0, o 3 (.nilchk (t 2)), o 4 (.fadd 0 (t 3)), l 5 4, o 6 (.bin .eql .ptr (t 5) (.c (.d .nilp)))])
 (.cond (t 6)
 (.reg [m 7 0, m 8 0, o 9 (.cvP none (t 8)), o 10 (.prim 412 .noEscape [(t 9)]), o 11 (.cvP (some (417, 2)) (t 10)), o 12 (.nilchk (t 7)), o 13 (.fadd 0 (t 12)), u (.store 1 (t 13) (t 11))])
 (.seq (.reg [m 14 0, o 15 (.nilchk (t 14)), o 16 (.fadd 0 (t 15)), l 17 16, m 18 0, o 19 (.bin .neq .ptr (t 17) (t 18))])
 (.cond (t 19)
 .bad
 .skip)))), false⟩
/-- (*foreman/graph.Graph).Put -/
def a387 : AFn := ⟨69, [.tmp 6, .tmp 7],
 (.seq (.reg [o 6 (.mv (.c (.d (.b false)))), o 7 (.mv (k 0))])
 (.seq (.blk 0 (.seq (.reg [m 10 0, o 11 (.callf 128 [(t 10)]), m 9 11])
 (.cond (t 9)
 (.seq (.reg [o 6 (.mv (.c (.d (.b false)))), o 7 (.mv (k 1))])
 .ret)
 (.seq (.reg [m 13 0, m 14 1, o 15 (.callf 422 [(t 13), (t 14)]), o 16 (.un .not (t 15)), m 17 16, mg 18 0 17 false, mg 19 2 17 false, og 20 (.callf 422 [(t 18), (t 19)]) 17 false, og 21 (.un .not (t 20)) 17 false, o 22 (.pick (t 17) (.c (.d (.b true))) (t 21)), m 23 22, mg 24 1 23 false, mg 25 2 23 false, og 26 (b .eql (t 24) (t 25)) 23 false, o 27 (.pick (t 23) (.c (.d (.b true))) (t 26)), m 12 27])
 (.cond (t 12)
 (.seq (.reg [o 6 (.mv (.c (.d (.b false)))), o 7 (.mv (k 2))])
 .ret)
 .skip)))))
 (.seq (.reg [o 8 (.mv (.c (.d (.b false))))])
 (.seq (.dreg 0 [⟨m 34 0, 5, false, [], none⟩, ⟨o 35 (.nilchk (t 34)), 6, false, [], none⟩, ⟨o 36 (.fadd 1 (t 35)), 7, false, [], none⟩, ⟨l 37 36, 8, false, [], none⟩, ⟨m 38 1, 9, false, [], none⟩, ⟨o 39 (.iaS 2 (t 37) (t 38)), 10, false, [], none⟩, ⟨o 40 (.fadd 0 (t 39)), 11, false, [], none⟩, ⟨l 41 40, 12, false, [], none⟩, ⟨m 42 2, 13, false, [], none⟩, ⟨o 43 (.callf 423 [(t 41), (t 42)]), 14, true, [], none⟩, ⟨m 29 0, 0, false, [], none⟩, ⟨o 30 (.nilchk (t 29)), 1, false, [], none⟩, ⟨o 31 (.fadd 1 (t 30)), 2, false, [], none⟩, ⟨l 32 31, 3, false, [], none⟩, ⟨m 33 1, 4, false, [], none⟩, ⟨m 28 43, 15, false, [14], none⟩, ⟨o 44 (.extr (t 28) 0), 16, false, [14], none⟩, ⟨o 46 (.iaS 2 (t 32) (t 33)), 18, false, [14], none⟩, ⟨o 47 (.fadd 0 (t 46)), 19, false, [14], none⟩, ⟨u (.store 1 (t 47) (t 44)), 20, true, [], none⟩, ⟨o 45 (.extr (t 28) 1), 17, false, [14], none⟩, ⟨m 8 45, 21, false, [20, 14], none⟩])
 (.seq (.dreg 0 [⟨m 54 0, 5, false, [], none⟩, ⟨o 55 (.nilchk (t 54)), 6, false, [], none⟩, ⟨o 56 (.fadd 1 (t 55)), 7, false, [], none⟩, ⟨l 57 56, 8, false, [], none⟩, ⟨m 58 2, 9, false, [], none⟩, ⟨o 59 (.iaS 2 (t 57) (t 58)), 10, false, [], none⟩, ⟨o 60 (.fadd 1 (t 59)), 11, false, [], none⟩, ⟨l 61 60, 12, false, [], none⟩, ⟨m 62 1, 13, false, [], none⟩, ⟨o 63 (.callf 423 [(t 61), (t 62)]), 14, true, [], none⟩, ⟨m 49 0, 0, false, [], none⟩, ⟨o 50 (.nilchk (t 49)), 1, false, [], none⟩, ⟨o 51 (.fadd 1 (t 50)), 2, false, [], none⟩, ⟨l 52 51, 3, false, [], none⟩, ⟨m 53 2, 4, false, [], none⟩, ⟨m 48 63, 15, false, [14], none⟩, ⟨o 64 (.extr (t 48) 0), 16, false, [14], none⟩, ⟨o 66 (.iaS 2 (t 52) (t 53)), 18, false, [14], none⟩, ⟨o 67 (.fadd 1 (t 66)), 19, false, [14], none⟩, ⟨u (.store 1 (t 67) (t 64)), 20, true, [], none⟩, ⟨o 65 (.extr (t 48) 1), 17, false, [14], none⟩])
 (.seq (.reg [m 68 8, m 6 68, o 7 (.mv (k 0))])
 .ret)))))), false⟩
/-- internal/stringslite.IndexByte -/
def a390 : AFn := ⟨8, [.tmp 4],
 (.seq (.reg [o 4 (.mv (k 0))])
 (.seq (.reg [m 5 0, m 6 1, o 7 (.prim 424 .indexByte [(t 5), (t 6)]), m 4 7])
 .ret)), false⟩
/-- internal/strconv.small -/
def a397 : AFn := ⟨15, [.tmp 2],
 (.seq (.reg [o 2 (.mv (.c (.d (.s []))))])
 (.seq (.seq (.reg [m 3 0, o 4 (b .lss (t 3) (k 10))])
 (.cond (t 4)
 (.seq (.reg [m 5 0, m 6 0, o 7 (b .add (t 6) (k 1)), o 8 (.slStr (.c (.d (.s [48, 49, 50, 51, 52, 53, 54, 55, 56, 57, 97, 98, 99, 100, 101, 102, 103, 104, 105, 106, 107, 108, 109, 110, 111, 112, 113, 114, 115, 116, 117, 118, 119, 120, 121, 122]))) (some (t 5)) (some (t 7))), m 2 8])
 .ret)
 .skip))
 (.seq (.reg [m 9 0, o 10 (b .mul (t 9) (k 2)), m 11 0, o 12 (b .mul (t 11) (k 2)), o 13 (b .add (t 12) (k 2)), o 14 (.slStr (.c (.d (.s [48, 48, 48, 49, 48, 50, 48, 51, 48, 52, 48, 53, 48, 54, 48, 55, 48, 56, 48, 57, 49, 48, 49, 49, 49, 50, 49, 51, 49, 52, 49, 53, 49, 54, 49, 55, 49, 56, 49, 57, 50, 48, 50, 49, 50, 50, 50, 51, 50, 52, 50, 53, 50, 54, 50, 55, 50, 56, 50, 57, 51, 48, 51, 49, 51, 50, 51, 51, 51, 52, 51, 53, 51, 54, 51, 55, 51, 56, 51, 57, 52, 48, 52, 49, 52, 50, 52, 51, 52, 52, 52, 53, 52, 54, 52, 55, 52, 56, 52, 57, 53, 48, 53, 49, 53, 50, 53, 51, 53, 52, 53, 53, 53, 54, 53, 55, 53, 56, 53, 57, 54, 48, 54, 49, 54, 50, 54, 51, 54, 52, 54, 53, 54, 54, 54, 55, 54, 56, 54, 57, 55, 48, 55, 49, 55, 50, 55, 51, 55, 52, 55, 53, 55, 54, 55, 55, 55, 56, 55, 57, 56, 48, 56, 49, 56, 50, 56, 51, 56, 52, 56, 53, 56, 54, 56, 55, 56, 56, 56, 57, 57, 48, 57, 49, 57, 50, 57, 51, 57, 52, 57, 53, 57, 54, 57, 55, 57, 56, 57, 57]))) (some (t 10)) (some (t 13))), m 2 14])
 .ret))), false⟩
/-- foreman/crc.times -/
def a401 : AFn := ⟨6, [.tmp 4],
 (.seq (.reg [o 2 (.box 3 (t 0)), o 3 (.box 477 (t 1)), o 4 (.mv (.c (.d .nilf)))])
 (.seq (.reg [o 5 (.mkfn (.func 433) [] [(t 2), (t 3)]), m 4 5])
 .ret)), false⟩
/-- foreman/crc.half -/
def a402 : AFn := ⟨11, [.tmp 2],
 (.seq (.reg [o 2 (.mv (.c (.d (.i .u32 0))))])
 (.seq (.seq (.reg [m 3 0, o 4 (b .and (t 3) (.c (.d (.i .u32 1)))), o 5 (b .eql (t 4) (.c (.d (.i .u32 1))))])
 (.cond (t 5)
 (.seq (.reg [m 6 0, o 7 (b .shr (t 6) (.c (.d (.i .u64 1)))), o 8 (b .xor (t 7) (.c (.d (.i .u32 3988292384)))), m 2 8])
 .ret)
 .skip))
 (.seq (.reg [m 9 0, o 10 (b .shr (t 9) (.c (.d (.i .u64 1)))), m 2 10])
 .ret))), false⟩
/-- (*foreman/frag.reader).num -/
def a405 : AFn := ⟨46, [.tmp 4],
 (.seq (.reg [o 4 (.mv (k 0))])
 (.seq (.reg [m 9 0, o 10 (.nilchk (t 9)), o 11 (.fadd 0 (t 10)), l 12 11, o 13 (.callf 325 [(t 12)]), m 8 13, o 14 (.extr (t 8) 0), o 15 (.extr (t 8) 1), o 16 (.extr (t 8) 2), m 5 14, m 6 15, m 7 16])
 (.seq (.seq (.reg [m 17 0, m 18 0, o 19 (.nilchk (t 18)), o 20 (.fadd 1 (t 19)), l 21 20, m 22 21, mg 23 7 22 false, og 24 (b .neq (t 23) (k 0)) 22 false, o 25 (.pick (t 22) (.c (.d (.b true))) (t 24)), m 26 25, mg 27 5 26 false, og 28 (b .lss (t 27) (k 0)) 26 false, o 29 (.pick (t 26) (.c (.d (.b true))) (t 28)), m 30 29, mg 31 5 30 false, mg 32 1 30 false, og 33 (b .gtr (t 31) (t 32)) 30 false, o 34 (.pick (t 30) (.c (.d (.b true))) (t 33)), o 35 (.nilchk (t 17)), o 36 (.fadd 1 (t 35)), u (.store 1 (t 36) (t 34))])
 (.seq (.reg [m 37 0, o 38 (.nilchk (t 37)), o 39 (.fadd 1 (t 38)), l 40 39])
 (.cond (t 40)
 (.seq (.reg [o 4 (.mv (k 0))])
 .ret)
 .skip)))
 (.seq (.reg [m 41 0, m 42 6, o 43 (.nilchk (t 41)), o 44 (.fadd 0 (t 43)), u (.store 1 (t 44) (t 42))])
 (.seq (.reg [m 45 5, m 4 45])
 .ret))))), false⟩
/-- (*foreman/frag.reader).text -/
def a406 : AFn := ⟨35, [.tmp 2],
 (.seq (.reg [o 2 (.mv (.c (.d (.s []))))])
 (.seq (.reg [m 7 0, o 8 (.nilchk (t 7)), o 9 (.fadd 0 (t 8)), l 10 9, o 11 (.callf 326 [(t 10), (k 20)]), m 6 11, o 12 (.extr (t 6) 0), o 13 (.extr (t 6) 1), o 14 (.extr (t 6) 2), m 3 12, m 4 13, m 5 14])
 (.seq (.seq (.reg [m 15 0, m 16 0, o 17 (.nilchk (t 16)), o 18 (.fadd 1 (t 17)), l 19 18, m 20 19, mg 21 5 20 false, og 22 (b .neq (t 21) (k 0)) 20 false, o 23 (.pick (t 20) (.c (.d (.b true))) (t 22)), o 24 (.nilchk (t 15)), o 25 (.fadd 1 (t 24)), u (.store 1 (t 25) (t 23))])
 (.seq (.reg [m 26 0, o 27 (.nilchk (t 26)), o 28 (.fadd 1 (t 27)), l 29 28])
 (.cond (t 29)
 (.seq (.reg [o 2 (.mv (.c (.d (.s []))))])
 .ret)
 .skip)))
 (.seq (.reg [m 30 0, m 31 4, o 32 (.nilchk (t 30)), o 33 (.fadd 0 (t 32)), u (.store 1 (t 33) (t 31))])
 (.seq (.reg [m 34 3, m 2 34])
 .ret))))), false⟩
/-- foreman/frag.many[string] -/
def a407 : AFn := ⟨27, [.tmp 6],
 (.seq (.reg [o 6 (.mv (.c .nilsl))])
 (.seq (.reg [o 7 (.mv (.c .nilsl))])
 (.seq (.seq (.reg [m 9 0, m 10 1, o 11 (.callf 405 [(t 9), (t 10)]), o 12 (.mv (k 0))])
 (.blk 0 (.loop (.seq (.reg [o 13 (b .lss (t 12) (t 11))])
 (.seq (.cond (t 13)
 .skip
 (.exit 0))
 (.seq (.blk 1 (.seq (.reg [m 14 2, o 15 (.callv (t 14) []), m 8 15])
 (.seq (.reg [m 16 0, o 17 (.nilchk (t 16)), o 18 (.fadd 1 (t 17)), l 19 18, o 20 (.un .not (t 19))])
 (.cond (t 20)
 (.reg [m 21 7, m 22 8, o 23 (.bsl 9 1 1 [(.d (.s []))] [(0, 1, (t 22))]), o 24 (.app 9 1 16 false (t 21) (t 23)), m 7 24])
 .skip))))
 (.reg [o 25 (b .add (t 12) (k 1)), m 12 25])))))))
 (.seq (.reg [m 26 7, m 6 26])
 .ret)))), false⟩
/-- slices.IndexFunc[[]foreman/api.Step,foreman/api.Step] -/
def a411 : AFn := ⟨19, [.tmp 4],
 (.seq (.reg [o 4 (.mv (k 0))])
 (.seq (.seq (.reg [m 6 0, o 7 (.len 1 (t 6)), o 8 (.mv (k 0))])
 (.blk 0 (.loop (.seq (.reg [o 9 (b .lss (t 8) (t 7))])
 (.seq (.cond (t 9)
 .skip
 (.exit 0))
 (.seq (.blk 1 (.seq (.reg [m 10 8, m 5 10])
 (.seq (.reg [m 11 1, m 12 0, m 13 5, o 14 (.iaS 2 (t 12) (t 13)), o 15 (.load true 2 (t 14)), o 16 (.callv (t 11) [(t 15)])])
 (.cond (t 16)
 (.seq (.reg [m 17 5, m 4 17])
 .ret)
 .skip))))
 (.reg [o 18 (b .add (t 8) (k 1)), m 8 18])))))))
 (.seq (.reg [o 4 (.mv (k (-1)))])
 .ret))), false⟩
/-- slices.BinarySearch[[]int,int] -/
def a416 : AFn := ⟨54, [.tmp 4, .tmp 5],
 (.seq (.reg [o 4 (.mv (k 0)), o 5 (.mv (.c (.d (.b false))))])
 (.seq (.reg [m 10 0, o 11 (.len 1 (t 10)), m 6 11])
 (.seq (.reg [m 12 6, o 7 (.mv (k 0)), m 8 12])
 (.seq (.blk 0 (.loop (.seq (.seq (.reg [m 13 7, m 14 8, o 15 (b .lss (t 13) (t 14))])
 (.cond (t 15)
 .skip
 (.exit 0)))
 (.blk 1 (.seq (.reg [m 16 7, m 17 8, o 18 (b .add (t 16) (t 17)), o 19 (.cvi .u64 (t 18)), o 20 (b .shr (t 19) (.c (.d (.i .u64 1)))), o 21 (.cvi .i64 (t 20)), m 9 21])
 (.seq (.reg [m 22 0, m 23 9, o 24 (.iaS 1 (t 22) (t 23)), l 25 24, m 26 1, o 27 (.callf 439 [(t 25), (t 26)])])
 (.cond (t 27)
 (.reg [m 28 9, o 29 (b .add (t 28) (k 1)), m 7 29])
 (.reg [m 30 9, m 8 30]))))))))
 (.seq (.reg [m 31 7, m 32 7, m 33 6, o 34 (b .lss (t 32) (t 33)), m 35 34, mg 36 0 35 true, mg 37 7 35 true, og 38 (.iaS 1 (t 36) (t 37)) 35 true, lg 39 38 35 true, mg 40 1 35 true, og 41 (b .eql (t 39) (t 40)) 35 true, mg 42 41 35 true, mg 43 0 42 false, mg 44 7 42 false, og 45 (.iaS 1 (t 43) (t 44)) 42 false, lg 46 45 42 false, og 47 (.callf 440 [(t 46)]) 42 false, mg 48 47 42 false, mg 49 1 48 true, og 50 (.callf 440 [(t 49)]) 48 true, og 51 (.pick (t 48) (t 50) (.c (.d (.b false)))) 42 false, og 52 (.pick (t 42) (.c (.d (.b true))) (t 51)) 35 true, o 53 (.pick (t 35) (t 52) (.c (.d (.b false)))), m 4 31, m 5 53])
 .ret))))), false⟩
/-- (*foreman/graph.Graph).is -/
def a422 : AFn := ⟨13, [.tmp 4],
 (.seq (.reg [o 4 (.mv (.c (.d (.b false))))])
 (.seq (.reg [m 5 1, o 6 (b .geq (t 5) (k 0)), m 7 6, mg 8 1 7 true, mg 9 0 7 true, og 10 (.callf 303 [(t 9)]) 7 true, og 11 (b .lss (t 8) (t 10)) 7 true, o 12 (.pick (t 7) (t 11) (.c (.d (.b false)))), m 4 12])
 .ret)), false⟩
/-- foreman/graph.put -/
def a423 : AFn := ⟨21, [.tmp 4, .tmp 5],
 (.seq (.reg [o 4 (.mv (.c .nilsl)), o 5 (.mv (.c (.d (.b false))))])
 (.seq (.reg [m 9 0, m 10 1, o 11 (.callf 416 [(t 9), (t 10)]), m 8 11, o 12 (.extr (t 8) 0), o 13 (.extr (t 8) 1), m 6 12, m 7 13])
 (.seq (.seq (.reg [m 14 7])
 (.cond (t 14)
 (.seq (.reg [m 15 0, m 4 15, o 5 (.mv (.c (.d (.b false))))])
 .ret)
 .skip))
 (.seq (.reg [m 16 0, m 17 6, m 18 1, o 19 (.bsl 3 1 1 [(.d (.i .i64 0))] [(0, 1, (t 18))]), o 20 (.insrt 443 3 (t 16) (t 17) (t 19)), m 4 20, o 5 (.mv (.c (.d (.b true))))])
 .ret)))), true⟩
/-- foreman/crc.times$1 -/
def a433 : AFn := ⟨13, [.tmp 4],
 (.seq (.reg [o 4 (.mv (.c (.d (.i .u32 0))))])
 (.seq (.seq (.reg [l 5 1, o 6 (.mv (k 0))])
 (.blk 0 (.loop (.seq (.reg [o 7 (b .lss (t 6) (t 5))])
 (.seq (.cond (t 7)
 .skip
 (.exit 0))
 (.seq (.blk 1 (.reg [l 8 2, m 9 0, o 10 (.callv (t 8) [(t 9)]), m 0 10]))
 (.reg [o 11 (b .add (t 6) (k 1)), m 6 11])))))))
 (.seq (.reg [m 12 0, m 4 12])
 .ret))), false⟩
end
end Go.Proofs.YtaadeimkgmccaaaGreatDoor
