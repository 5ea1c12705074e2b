/- The program's functions as the abstract machine's code: what it is compiled to, by program; that it is the compiler's is shown in the text on the environment. -/
import Derived.Test.YtmaeffhiephpfaaGreatDoorZA
namespace Go.Proofs.YtmaeffhiephpfaaGreatDoor
open Go Go.Abs
/-- (foreman/check.asked).deep -/
def a191 : AFn := ⟨32, [.tmp 2],
 (.seq (.reg [⟨(some 1), (.box 196 (.t 0)), none⟩, ⟨(some 2), (.mv (.c (.d (.b false)))), none⟩])
 (.seq (.reg [⟨(some 4), (.fadd 5 (.t 1)), none⟩, ⟨(some 5), (.load false 1 (.t 4)), none⟩, ⟨(some 6), (.fadd 6 (.t 1)), none⟩, ⟨(some 7), (.load false 1 (.t 6)), none⟩, ⟨(some 8), (.callf 118 [(.t 5), (.t 7)]), none⟩, ⟨(some 9), (.bin .add .bad (.t 8) (.c (.d (.i .i64 1)))), none⟩, ⟨(some 3), (.mv (.t 9)), none⟩])
 (.seq (.reg [⟨(some 10), (.fadd 8 (.t 1)), none⟩, ⟨(some 11), (.load false 1 (.t 10)), none⟩, ⟨(some 12), (.len 1 (.t 11)), none⟩, ⟨(some 13), (.bin .gtr .bad (.t 12) (.c (.d (.i .i64 0)))), none⟩, ⟨(some 14), (.mv (.t 13)), none⟩, ⟨(some 15), (.mv (.t 3)), (some (14, true))⟩, ⟨(some 16), (.fadd 0 (.t 1)), (some (14, true))⟩, ⟨(some 17), (.fadd 1 (.t 16)), (some (14, true))⟩, ⟨(some 18), (.load false 1 (.t 17)), (some (14, true))⟩, ⟨(some 19), (.bin .gtr .bad (.t 15) (.t 18)), (some (14, true))⟩, ⟨(some 20), (.pick (.t 14) (.t 19) (.c (.d (.b false)))), none⟩, ⟨(some 21), (.mv (.t 20)), none⟩, ⟨(some 22), (.load true 9 (.t 1)), (some (21, false))⟩, ⟨(some 23), (.callf 228 [(.t 22), (.c (.d (.fn (.func 230) [] [])))]), (some (21, false))⟩, ⟨(some 24), (.mv (.t 23)), (some (21, false))⟩, ⟨(some 25), (.mv (.t 3)), (some (24, true))⟩, ⟨(some 26), (.fadd 0 (.t 1)), (some (24, true))⟩, ⟨(some 27), (.fadd 1 (.t 26)), (some (24, true))⟩, ⟨(some 28), (.load false 1 (.t 27)), (some (24, true))⟩, ⟨(some 29), (.bin .geq .bad (.t 25) (.t 28)), (some (24, true))⟩, ⟨(some 30), (.pick (.t 24) (.t 29) (.c (.d (.b false)))), (some (21, false))⟩, ⟨(some 31), (.pick (.t 21) (.c (.d (.b true))) (.t 30)), none⟩, ⟨(some 2), (.mv (.t 31)), none⟩])
 .ret))), false⟩
/-- (foreman/check.asked).refers -/
def a192 : AFn := ⟨6, [.tmp 2],
 (.seq (.reg [⟨(some 1), (.box 196 (.t 0)), none⟩, ⟨(some 2), (.mv (.c (.d (.b false)))), none⟩])
 (.seq (.reg [⟨(some 3), (.load true 9 (.t 1)), none⟩, ⟨(some 4), (.mkfn (.func 232) [] [(.t 1)]), none⟩, ⟨(some 5), (.callf 228 [(.t 3), (.t 4)]), none⟩, ⟨(some 2), (.mv (.t 5)), none⟩])
 .ret)), false⟩
/-- (foreman/check.asked).all$2 -/
def a193 : AFn := ⟨8, [.tmp 1],
 (.seq (.reg [⟨(some 1), (.mv (.c (.d (.b false)))), none⟩])
 (.seq (.dreg 0 [⟨⟨(some 2), (.fadd 8 (.t 0)), none⟩, 0, false, [], none⟩, ⟨⟨(some 3), (.load false 1 (.t 2)), none⟩, 1, false, [], none⟩, ⟨⟨(some 4), (.callf 194 [(.t 3)]), none⟩, 2, true, [], none⟩, ⟨⟨(some 5), (.fadd 7 (.t 0)), none⟩, 3, false, [], none⟩, ⟨⟨(some 6), (.load false 1 (.t 5)), none⟩, 4, false, [], none⟩, ⟨⟨(some 7), (.bin .gtr .bad (.t 4) (.t 6)), none⟩, 5, false, [2], none⟩, ⟨⟨(some 1), (.mv (.t 7)), none⟩, 6, false, [2], none⟩])
 .ret)), false⟩
/-- foreman/check.Total -/
def a194 : AFn := ⟨18, [.tmp 2],
 (.seq (.reg [⟨(some 2), (.mv (.c (.d (.i .i64 0)))), none⟩])
 (.seq (.reg [⟨(some 3), (.mv (.c (.d (.i .i64 0)))), none⟩])
 (.seq (.seq (.reg [⟨(some 6), (.mv (.t 0)), none⟩, ⟨(some 7), (.len 1 (.t 6)), none⟩, ⟨(some 8), (.mv (.c (.d (.i .i64 0)))), none⟩])
 (.blk 0 (.loop (.seq (.reg [⟨(some 9), (.bin .lss .bad (.t 8) (.t 7)), none⟩])
 (.seq (.cond (.t 9)
 .skip
 (.exit 0))
 (.seq (.blk 1 (.seq (.reg [⟨(some 10), (.iaS 6 (.t 6) (.t 8)), none⟩, ⟨(some 11), (.load true 6 (.t 10)), none⟩, ⟨(some 5), (.alloc 58 [(.d (.s [])), (.d (.i .u8 0)), .nilsl, (.d (.s [])), (.d (.i .i64 0)), (.d (.i .i64 0))]), none⟩, ⟨none, (.store 6 (.t 5) (.t 11)), none⟩])
 (.reg [⟨(some 12), (.mv (.t 3)), none⟩, ⟨(some 13), (.load true 6 (.t 5)), none⟩, ⟨(some 14), (.callf 234 [(.t 13)]), none⟩, ⟨(some 15), (.bin .add .bad (.t 12) (.t 14)), none⟩, ⟨(some 3), (.mv (.t 15)), none⟩])))
 (.reg [⟨(some 16), (.bin .add .bad (.t 8) (.c (.d (.i .i64 1)))), none⟩, ⟨(some 8), (.mv (.t 16)), none⟩])))))))
 (.seq (.reg [⟨(some 17), (.mv (.t 3)), none⟩, ⟨(some 2), (.mv (.t 17)), none⟩])
 .ret)))), false⟩
/-- (foreman/check.asked).over -/
def a195 : AFn := ⟨6, [.tmp 2],
 (.seq (.reg [⟨(some 1), (.box 196 (.t 0)), none⟩, ⟨(some 2), (.mv (.c (.d (.b false)))), none⟩])
 (.seq (.reg [⟨(some 3), (.load true 9 (.t 1)), none⟩, ⟨(some 4), (.mkfn (.func 235) [] [(.t 1)]), none⟩, ⟨(some 5), (.callf 228 [(.t 3), (.t 4)]), none⟩, ⟨(some 2), (.mv (.t 5)), none⟩])
 .ret)), false⟩
/-- (foreman/check.asked).all$3 -/
def a196 : AFn := ⟨19, [],
 (.seq (.reg [⟨(some 5), (.load false 1 (.t 1)), none⟩, ⟨(some 6), (.len 1 (.t 5)), none⟩, ⟨(some 7), (.mv (.c (.d (.i .i64 0)))), none⟩])
 (.blk 0 (.loop (.seq (.reg [⟨(some 8), (.bin .lss .bad (.t 7) (.t 6)), none⟩])
 (.seq (.cond (.t 8)
 .skip
 (.exit 0))
 (.seq (.blk 1 (.seq (.reg [⟨(some 9), (.iaS 2 (.t 5) (.t 7)), none⟩, ⟨(some 10), (.load true 2 (.t 9)), none⟩, ⟨(some 4), (.alloc 244 [(.d (.i .i64 0)), (.d .nilf)]), none⟩, ⟨none, (.store 2 (.t 4) (.t 10)), none⟩])
 (.seq (.reg [⟨(some 11), (.mv (.t 0)), none⟩, ⟨(some 12), (.fadd 0 (.t 4)), none⟩, ⟨(some 13), (.load false 1 (.t 12)), none⟩, ⟨(some 14), (.fadd 1 (.t 4)), none⟩, ⟨(some 15), (.load false 1 (.t 14)), none⟩, ⟨(some 16), (.callv (.t 11) [(.t 13), (.t 15)]), none⟩, ⟨(some 17), (.un .not (.t 16)), none⟩])
 (.cond (.t 17)
 .ret
 .skip))))
 (.reg [⟨(some 18), (.bin .add .bad (.t 7) (.c (.d (.i .i64 1)))), none⟩, ⟨(some 7), (.mv (.t 18)), none⟩]))))))), false⟩
/-- (foreman/check.asked).refs -/
def a197 : AFn := ⟨35, [.tmp 4, .tmp 5, .tmp 6],
 (.seq (.reg [⟨(some 2), (.box 196 (.t 0)), none⟩, ⟨(some 3), (.box 9 (.t 1)), none⟩, ⟨(some 4), (.mv (.c (.d (.i .i64 0)))), none⟩, ⟨(some 5), (.mv (.c (.d (.i .i64 0)))), none⟩, ⟨(some 6), (.mv (.c (.d (.b false)))), none⟩])
 (.seq (.reg [⟨(some 10), (.fadd 8 (.t 2)), none⟩, ⟨(some 11), (.load false 1 (.t 10)), none⟩, ⟨(some 12), (.mkfn (.func 236) [] [(.t 3)]), none⟩, ⟨(some 13), (.callf 135 [(.t 11), (.t 12)]), none⟩, ⟨(some 7), (.mv (.t 13)), none⟩])
 (.seq (.seq (.reg [⟨(some 14), (.mv (.t 7)), none⟩, ⟨(some 15), (.bin .geq .bad (.t 14) (.c (.d (.i .i64 0)))), none⟩, ⟨(some 16), (.mv (.t 15)), none⟩, ⟨(some 17), (.load false 1 (.t 3)), (some (16, true))⟩, ⟨(some 18), (.bin .neq .bad (.t 17) (.c (.d (.s [])))), (some (16, true))⟩, ⟨(some 19), (.pick (.t 16) (.t 18) (.c (.d (.b false)))), none⟩])
 (.cond (.t 19)
 (.seq (.reg [⟨(some 20), (.mv (.t 7)), none⟩, ⟨(some 4), (.mv (.t 20)), none⟩, ⟨(some 5), (.mv (.c (.d (.i .i64 (-1))))), none⟩, ⟨(some 6), (.mv (.c (.d (.b true)))), none⟩])
 .ret)
 .skip))
 (.seq (.seq (.reg [⟨(some 21), (.fadd 6 (.t 2)), none⟩, ⟨(some 22), (.load false 1 (.t 21)), none⟩, ⟨(some 23), (.bin .geq .bad (.t 22) (.c (.d (.i .i64 0)))), none⟩])
 (.cond (.t 23)
 (.seq (.reg [⟨(some 25), (.fadd 5 (.t 2)), none⟩, ⟨(some 26), (.load false 1 (.t 25)), none⟩, ⟨(some 27), (.fadd 6 (.t 2)), none⟩, ⟨(some 28), (.load false 1 (.t 27)), none⟩, ⟨(some 29), (.load false 1 (.t 3)), none⟩, ⟨(some 30), (.callf 237 [(.t 26), (.t 28), (.t 29)]), none⟩, ⟨(some 24), (.mv (.t 30)), none⟩, ⟨(some 31), (.extr (.t 24) 0), none⟩, ⟨(some 32), (.extr (.t 24) 1), none⟩, ⟨(some 8), (.mv (.t 31)), none⟩, ⟨(some 9), (.mv (.t 32)), none⟩])
 (.seq (.reg [⟨(some 33), (.mv (.t 9)), none⟩])
 (.cond (.t 33)
 (.seq (.reg [⟨(some 34), (.mv (.t 8)), none⟩, ⟨(some 4), (.mv (.c (.d (.i .i64 (-1))))), none⟩, ⟨(some 5), (.mv (.t 34)), none⟩, ⟨(some 6), (.mv (.c (.d (.b true)))), none⟩])
 .ret)
 .skip)))
 .skip))
 (.seq (.reg [⟨(some 4), (.mv (.c (.d (.i .i64 (-1))))), none⟩, ⟨(some 5), (.mv (.c (.d (.i .i64 (-1))))), none⟩, ⟨(some 6), (.mv (.c (.d (.b false)))), none⟩])
 .ret))))), false⟩
/-- slices.Grow[[]foreman/api.Node,foreman/api.Node] -/
def a198 : AFn := ⟨27, [.tmp 4],
 (.seq (.reg [⟨(some 4), (.mv (.c .nilsl)), none⟩])
 (.seq (.seq (.reg [⟨(some 5), (.mv (.t 1)), none⟩, ⟨(some 6), (.bin .lss .bad (.t 5) (.c (.d (.i .i64 0)))), none⟩])
 (.cond (.t 6)
 (.reg [⟨(some 7), (.mkif 9 (.c (.d (.s [99, 97, 110, 110, 111, 116, 32, 98, 101, 32, 110, 101, 103, 97, 116, 105, 118, 101])))), none⟩, ⟨none, (.panic (.t 7)), none⟩])
 .skip))
 (.seq (.seq (.reg [⟨(some 8), (.mv (.t 1)), none⟩, ⟨(some 9), (.mv (.t 0)), none⟩, ⟨(some 10), (.cap (.t 9)), none⟩, ⟨(some 11), (.mv (.t 0)), none⟩, ⟨(some 12), (.len 1 (.t 11)), none⟩, ⟨(some 13), (.bin .sub .bad (.t 10) (.t 12)), none⟩, ⟨(some 14), (.bin .sub .bad (.t 8) (.t 13)), none⟩, ⟨(some 1), (.mv (.t 14)), none⟩])
 (.seq (.reg [⟨(some 15), (.mv (.t 1)), none⟩, ⟨(some 16), (.bin .gtr .bad (.t 15) (.c (.d (.i .i64 0)))), none⟩])
 (.cond (.t 16)
 (.reg [⟨(some 17), (.mv (.t 0)), none⟩, ⟨(some 18), (.mv (.t 0)), none⟩, ⟨(some 19), (.cap (.t 18)), none⟩, ⟨(some 20), (.slSl 16 (.t 17) none (some (.t 19)) none), none⟩, ⟨(some 21), (.mv (.t 1)), none⟩, ⟨(some 22), (.appz 64 16 184 [(.d (.s [])), (.d (.s [])), (.d (.i .u8 0)), (.d (.i .i64 0)), (.d (.i .i64 0)), (.d (.i .i64 0)), .nilsl, (.d (.i .i64 0)), (.d (.i .i64 0)), (.d (.i .u8 0)), (.d (.i .i64 0)), (.d (.i .i64 0)), (.d (.i .u8 0)), (.d (.i .i64 0)), (.d (.s [])), .nilsl] (.t 20) (.t 21)), none⟩, ⟨(some 23), (.mv (.t 0)), none⟩, ⟨(some 24), (.len 1 (.t 23)), none⟩, ⟨(some 25), (.slSl 16 (.t 22) none (some (.t 24)) none), none⟩, ⟨(some 0), (.mv (.t 25)), none⟩])
 .skip)))
 (.seq (.reg [⟨(some 26), (.mv (.t 0)), none⟩, ⟨(some 4), (.mv (.t 26)), none⟩])
 .ret)))), false⟩
/-- foreman/join.due -/
def a199 : AFn := ⟨28, [.tmp 4],
 (.seq (.reg [⟨(some 2), (.box 36 (.t 0)), none⟩, ⟨(some 4), (.mv (.c (.d (.b false)))), none⟩])
 (.seq (.seq (.reg [⟨(some 5), (.fadd 6 (.t 2)), none⟩, ⟨(some 6), (.load false 1 (.t 5)), none⟩, ⟨(some 7), (.mv (.t 1)), none⟩, ⟨(some 8), (.iaS 16 (.t 6) (.t 7)), none⟩, ⟨(some 9), (.fadd 9 (.t 8)), none⟩, ⟨(some 10), (.load false 1 (.t 9)), none⟩])
 (.blk 0 (.seq (.reg [⟨(some 12), (.bin .eql .bad (.t 10) (.c (.d (.i .u8 0)))), none⟩, ⟨(some 11), (.mv (.t 12)), none⟩])
 (.cond (.t 11)
 (.seq (.dreg 0 [⟨⟨(some 13), (.load true 8 (.t 2)), none⟩, 0, false, [], none⟩, ⟨⟨(some 14), (.fadd 6 (.t 2)), none⟩, 1, false, [], none⟩, ⟨⟨(some 15), (.load false 1 (.t 14)), none⟩, 2, false, [], none⟩, ⟨⟨(some 16), (.mv (.t 1)), none⟩, 3, false, [], none⟩, ⟨⟨(some 17), (.iaS 16 (.t 15) (.t 16)), none⟩, 4, false, [], none⟩, ⟨⟨(some 18), (.fadd 6 (.t 17)), none⟩, 5, false, [], none⟩, ⟨⟨(some 19), (.load false 1 (.t 18)), none⟩, 6, false, [], none⟩, ⟨⟨(some 20), (.callf 238 [(.t 13), (.t 19)]), none⟩, 7, true, [], none⟩, ⟨⟨(some 4), (.mv (.t 20)), none⟩, 8, false, [7], none⟩])
 .ret)
 (.seq (.reg [⟨(some 22), (.bin .eql .bad (.t 10) (.c (.d (.i .u8 3)))), none⟩, ⟨(some 21), (.mv (.t 22)), none⟩])
 (.cond (.t 21)
 (.seq (.dreg 0 [⟨⟨(some 24), (.load true 8 (.t 2)), none⟩, 1, false, [], none⟩, ⟨⟨(some 25), (.mv (.t 1)), none⟩, 2, false, [], none⟩, ⟨⟨(some 26), (.callf 239 [(.t 24), (.t 25)]), none⟩, 3, true, [], none⟩, ⟨⟨(some 23), (.load true 8 (.t 2)), none⟩, 0, false, [], none⟩, ⟨⟨(some 27), (.callf 238 [(.t 23), (.t 26)]), none⟩, 4, true, [], none⟩, ⟨⟨(some 4), (.mv (.t 27)), none⟩, 5, false, [4, 3], none⟩])
 .ret)
 .skip))))))
 (.seq (.reg [⟨(some 4), (.mv (.c (.d (.b false)))), none⟩])
 .ret))), false⟩
/-- foreman/join.end -/
def a200 : AFn := ⟨42, [],
 (.seq (.reg [⟨(some 2), (.box 36 (.t 0)), none⟩])
 (.seq (.seq (.reg [⟨(some 6), (.fadd 6 (.t 2)), none⟩, ⟨(some 7), (.load false 1 (.t 6)), none⟩, ⟨(some 8), (.mv (.t 1)), none⟩, ⟨(some 9), (.iaS 16 (.t 7) (.t 8)), none⟩, ⟨(some 10), (.fadd 2 (.t 9)), none⟩, ⟨(some 11), (.load false 1 (.t 10)), none⟩, ⟨(some 12), (.bin .neq .bad (.t 11) (.c (.d (.i .u8 1)))), none⟩])
 (.cond (.t 12)
 (.seq (.reg [⟨(some 13), (.load true 8 (.t 2)), none⟩, ⟨(some 14), (.mv (.t 1)), none⟩, ⟨(some 15), (.callf 156 [(.t 13), (.t 14), (.c (.d (.i .u8 4)))]), none⟩])
 .ret)
 .skip))
 (.seq (.reg [⟨(some 17), (.fadd 6 (.t 2)), none⟩, ⟨(some 18), (.load false 1 (.t 17)), none⟩, ⟨(some 19), (.mv (.t 1)), none⟩, ⟨(some 20), (.callf 240 [(.t 18), (.t 19)]), none⟩, ⟨(some 16), (.mv (.t 20)), none⟩, ⟨(some 21), (.extr (.t 16) 0), none⟩, ⟨(some 22), (.extr (.t 16) 1), none⟩, ⟨(some 4), (.alloc 24 [(.d (.i .u8 0)), (.d (.i .i64 0)), (.d (.s [])), .nilsl]), none⟩, ⟨none, (.store 4 (.t 4) (.t 21)), none⟩, ⟨(some 5), (.mv (.t 22)), none⟩])
 (.seq (.seq (.reg [⟨(some 23), (.mv (.t 5)), none⟩, ⟨(some 24), (.un .not (.t 23)), none⟩, ⟨(some 25), (.mv (.t 24)), none⟩, ⟨(some 26), (.load true 4 (.t 4)), (some (25, false))⟩, ⟨(some 27), (.callf 37 [(.t 26)]), (some (25, false))⟩, ⟨(some 28), (.un .not (.t 27)), (some (25, false))⟩, ⟨(some 29), (.pick (.t 25) (.c (.d (.b true))) (.t 28)), none⟩])
 (.cond (.t 29)
 (.seq (.reg [⟨(some 30), (.load true 8 (.t 2)), none⟩, ⟨(some 31), (.mv (.t 1)), none⟩, ⟨(some 32), (.callf 97 [(.t 30), (.t 31), (.c (.d (.i .u8 5)))]), none⟩])
 .ret)
 .skip))
 (.seq (.reg [⟨(some 33), (.load true 8 (.t 2)), none⟩, ⟨(some 34), (.mv (.t 1)), none⟩, ⟨(some 35), (.callf 156 [(.t 33), (.t 34), (.c (.d (.i .u8 4)))]), none⟩])
 (.reg [⟨(some 36), (.fadd 6 (.t 2)), none⟩, ⟨(some 37), (.load false 1 (.t 36)), none⟩, ⟨(some 38), (.mv (.t 1)), none⟩, ⟨(some 39), (.load true 4 (.t 4)), none⟩, ⟨(some 40), (.iaS 16 (.t 37) (.t 38)), none⟩, ⟨(some 41), (.fadd 12 (.t 40)), none⟩, ⟨none, (.store 4 (.t 41) (.t 39)), none⟩])))))), true⟩
/-- strings.splitSeq$1 -/
def a204 : AFn := ⟨52, [],
 (.seq (.seq (.reg [⟨(some 9), (.load false 1 (.t 1)), none⟩, ⟨(some 10), (.len 0 (.t 9)), none⟩, ⟨(some 11), (.bin .eql .bad (.t 10) (.c (.d (.i .i64 0)))), none⟩])
 (.cond (.t 11)
 (.seq (.blk 0 (.loop (.seq (.seq (.reg [⟨(some 12), (.load false 1 (.t 2)), none⟩, ⟨(some 13), (.len 0 (.t 12)), none⟩, ⟨(some 14), (.bin .gtr .bad (.t 13) (.c (.d (.i .i64 0)))), none⟩])
 (.cond (.t 14)
 .skip
 (.exit 0)))
 (.blk 1 (.seq (.reg [⟨(some 16), (.load false 1 (.t 2)), none⟩, ⟨(some 17), (.callf 205 [(.t 16)]), none⟩, ⟨(some 15), (.mv (.t 17)), none⟩, ⟨(some 18), (.extr (.t 15) 0), none⟩, ⟨(some 19), (.extr (.t 15) 1), none⟩, ⟨(some 5), (.mv (.t 18)), none⟩, ⟨(some 6), (.mv (.t 19)), none⟩])
 (.seq (.seq (.reg [⟨(some 20), (.mv (.t 0)), none⟩, ⟨(some 21), (.load false 1 (.t 2)), none⟩, ⟨(some 22), (.mv (.t 6)), none⟩, ⟨(some 23), (.slStr (.t 21) none (some (.t 22))), none⟩, ⟨(some 24), (.callv (.t 20) [(.t 23)]), none⟩, ⟨(some 25), (.un .not (.t 24)), none⟩])
 (.cond (.t 25)
 .ret
 .skip))
 (.reg [⟨(some 26), (.load false 1 (.t 2)), none⟩, ⟨(some 27), (.mv (.t 6)), none⟩, ⟨(some 28), (.slStr (.t 26) (some (.t 27)) none), none⟩, ⟨none, (.store 1 (.t 2) (.t 28)), none⟩])))))))
 .ret)
 .skip))
 (.seq (.blk 2 (.loop (.blk 3 (.seq (.reg [⟨(some 29), (.load false 1 (.t 2)), none⟩, ⟨(some 30), (.load false 1 (.t 1)), none⟩, ⟨(some 31), (.callf 206 [(.t 29), (.t 30)]), none⟩, ⟨(some 7), (.mv (.t 31)), none⟩])
 (.seq (.seq (.reg [⟨(some 32), (.mv (.t 7)), none⟩, ⟨(some 33), (.bin .lss .bad (.t 32) (.c (.d (.i .i64 0)))), none⟩])
 (.cond (.t 33)
 (.exit 2)
 .skip))
 (.seq (.reg [⟨(some 34), (.load false 1 (.t 2)), none⟩, ⟨(some 35), (.mv (.t 7)), none⟩, ⟨(some 36), (.load false 1 (.t 3)), none⟩, ⟨(some 37), (.bin .add .bad (.t 35) (.t 36)), none⟩, ⟨(some 38), (.slStr (.t 34) none (some (.t 37))), none⟩, ⟨(some 8), (.mv (.t 38)), none⟩])
 (.seq (.seq (.reg [⟨(some 39), (.mv (.t 0)), none⟩, ⟨(some 40), (.mv (.t 8)), none⟩, ⟨(some 41), (.callv (.t 39) [(.t 40)]), none⟩, ⟨(some 42), (.un .not (.t 41)), none⟩])
 (.cond (.t 42)
 .ret
 .skip))
 (.reg [⟨(some 43), (.load false 1 (.t 2)), none⟩, ⟨(some 44), (.mv (.t 7)), none⟩, ⟨(some 45), (.load false 1 (.t 1)), none⟩, ⟨(some 46), (.len 0 (.t 45)), none⟩, ⟨(some 47), (.bin .add .bad (.t 44) (.t 46)), none⟩, ⟨(some 48), (.slStr (.t 43) (some (.t 47)) none), none⟩, ⟨none, (.store 1 (.t 2) (.t 48)), none⟩]))))))))
 (.reg [⟨(some 49), (.mv (.t 0)), none⟩, ⟨(some 50), (.load false 1 (.t 2)), none⟩, ⟨(some 51), (.callv (.t 49) [(.t 50)]), none⟩]))), false⟩
/-- strings.Index -/
def a206 : AFn := ⟨8, [.tmp 4],
 (.seq (.reg [⟨(some 4), (.mv (.c (.d (.i .i64 0)))), none⟩])
 (.seq (.reg [⟨(some 5), (.mv (.t 0)), none⟩, ⟨(some 6), (.mv (.t 1)), none⟩, ⟨(some 7), (.callf 243 [(.t 5), (.t 6)]), none⟩, ⟨(some 4), (.mv (.t 7)), none⟩])
 .ret)), false⟩
/-- internal/strconv.Atoi -/
def a207 : AFn := ⟨77, [.tmp 2, .tmp 3],
 (.seq (.reg [⟨(some 2), (.mv (.c (.d (.i .i64 0)))), none⟩, ⟨(some 3), (.mv (.c (.d .nili))), none⟩])
 (.seq (.reg [⟨(some 11), (.mv (.t 0)), none⟩, ⟨(some 12), (.len 0 (.t 11)), none⟩, ⟨(some 4), (.mv (.t 12)), none⟩])
 (.seq (.seq (.reg [⟨(some 13), (.mv (.c (.d (.b false)))), none⟩, ⟨(some 14), (.mv (.t 4)), (some (13, true))⟩, ⟨(some 15), (.bin .lss .bad (.c (.d (.i .i64 0))) (.t 14)), (some (13, true))⟩, ⟨(some 16), (.mv (.t 15)), (some (13, true))⟩, ⟨(some 17), (.mv (.t 4)), (some (16, true))⟩, ⟨(some 18), (.bin .lss .bad (.t 17) (.c (.d (.i .i64 10)))), (some (16, true))⟩, ⟨(some 19), (.pick (.t 16) (.t 18) (.c (.d (.b false)))), (some (13, true))⟩, ⟨(some 20), (.pick (.t 13) (.t 19) (.c (.d (.b false)))), none⟩, ⟨(some 21), (.mv (.t 20)), none⟩, ⟨(some 22), (.mv (.c (.d (.b true)))), (some (21, false))⟩, ⟨(some 23), (.mv (.t 4)), (some (22, true))⟩, ⟨(some 24), (.bin .lss .bad (.c (.d (.i .i64 0))) (.t 23)), (some (22, true))⟩, ⟨(some 25), (.mv (.t 24)), (some (22, true))⟩, ⟨(some 26), (.mv (.t 4)), (some (25, true))⟩, ⟨(some 27), (.bin .lss .bad (.t 26) (.c (.d (.i .i64 19)))), (some (25, true))⟩, ⟨(some 28), (.pick (.t 25) (.t 27) (.c (.d (.b false)))), (some (22, true))⟩, ⟨(some 29), (.pick (.t 22) (.t 28) (.c (.d (.b false)))), (some (21, false))⟩, ⟨(some 30), (.pick (.t 21) (.c (.d (.b true))) (.t 29)), none⟩])
 (.cond (.t 30)
 (.seq (.reg [⟨(some 31), (.mv (.t 0)), none⟩, ⟨(some 5), (.mv (.t 31)), none⟩])
 (.seq (.seq (.reg [⟨(some 32), (.mv (.t 0)), none⟩, ⟨(some 33), (.ixS (.t 32) (.c (.d (.i .i64 0)))), none⟩, ⟨(some 34), (.bin .eql .bad (.t 33) (.c (.d (.i .u8 45)))), none⟩, ⟨(some 35), (.mv (.t 34)), none⟩, ⟨(some 36), (.mv (.t 0)), (some (35, false))⟩, ⟨(some 37), (.ixS (.t 36) (.c (.d (.i .i64 0)))), (some (35, false))⟩, ⟨(some 38), (.bin .eql .bad (.t 37) (.c (.d (.i .u8 43)))), (some (35, false))⟩, ⟨(some 39), (.pick (.t 35) (.c (.d (.b true))) (.t 38)), none⟩])
 (.cond (.t 39)
 (.seq (.reg [⟨(some 40), (.mv (.t 0)), none⟩, ⟨(some 41), (.slStr (.t 40) (some (.c (.d (.i .i64 1)))) none), none⟩, ⟨(some 0), (.mv (.t 41)), none⟩])
 (.seq (.reg [⟨(some 42), (.mv (.t 0)), none⟩, ⟨(some 43), (.len 0 (.t 42)), none⟩, ⟨(some 44), (.bin .lss .bad (.t 43) (.c (.d (.i .i64 1)))), none⟩])
 (.cond (.t 44)
 (.seq (.reg [⟨(some 45), (.mkif 280 (.c (.d (.i .i64 2)))), none⟩, ⟨(some 2), (.mv (.c (.d (.i .i64 0)))), none⟩, ⟨(some 3), (.mv (.t 45)), none⟩])
 .ret)
 .skip)))
 .skip))
 (.seq (.reg [⟨(some 6), (.mv (.c (.d (.i .i64 0)))), none⟩])
 (.seq (.seq (.reg [⟨(some 46), (.mv (.t 0)), none⟩, ⟨(some 47), (.s2b 5 (.t 46)), none⟩, ⟨(some 48), (.len 1 (.t 47)), none⟩, ⟨(some 49), (.mv (.c (.d (.i .i64 0)))), none⟩])
 (.blk 0 (.loop (.seq (.reg [⟨(some 50), (.bin .lss .bad (.t 49) (.t 48)), none⟩])
 (.seq (.cond (.t 50)
 .skip
 (.exit 0))
 (.seq (.blk 1 (.seq (.reg [⟨(some 51), (.iaS 1 (.t 47) (.t 49)), none⟩, ⟨(some 52), (.load false 1 (.t 51)), none⟩, ⟨(some 8), (.mv (.t 52)), none⟩])
 (.seq (.reg [⟨(some 53), (.mv (.t 8)), none⟩, ⟨(some 54), (.bin .sub .bad (.t 53) (.c (.d (.i .u8 48)))), none⟩, ⟨(some 8), (.mv (.t 54)), none⟩])
 (.seq (.seq (.reg [⟨(some 55), (.mv (.t 8)), none⟩, ⟨(some 56), (.bin .gtr .bad (.t 55) (.c (.d (.i .u8 9)))), none⟩])
 (.cond (.t 56)
 (.seq (.reg [⟨(some 57), (.mkif 280 (.c (.d (.i .i64 2)))), none⟩, ⟨(some 2), (.mv (.c (.d (.i .i64 0)))), none⟩, ⟨(some 3), (.mv (.t 57)), none⟩])
 .ret)
 .skip))
 (.reg [⟨(some 58), (.mv (.t 6)), none⟩, ⟨(some 59), (.bin .mul .bad (.t 58) (.c (.d (.i .i64 10)))), none⟩, ⟨(some 60), (.mv (.t 8)), none⟩, ⟨(some 61), (.cvi .i64 (.t 60)), none⟩, ⟨(some 62), (.bin .add .bad (.t 59) (.t 61)), none⟩, ⟨(some 6), (.mv (.t 62)), none⟩])))))
 (.reg [⟨(some 63), (.bin .add .bad (.t 49) (.c (.d (.i .i64 1)))), none⟩, ⟨(some 49), (.mv (.t 63)), none⟩])))))))
 (.seq (.seq (.reg [⟨(some 64), (.mv (.t 5)), none⟩, ⟨(some 65), (.ixS (.t 64) (.c (.d (.i .i64 0)))), none⟩, ⟨(some 66), (.bin .eql .bad (.t 65) (.c (.d (.i .u8 45)))), none⟩])
 (.cond (.t 66)
 (.reg [⟨(some 67), (.mv (.t 6)), none⟩, ⟨(some 68), (.un .neg (.t 67)), none⟩, ⟨(some 6), (.mv (.t 68)), none⟩])
 .skip))
 (.seq (.reg [⟨(some 69), (.mv (.t 6)), none⟩, ⟨(some 2), (.mv (.t 69)), none⟩, ⟨(some 3), (.mv (.c (.d .nili))), none⟩])
 .ret))))))
 .skip))
 (.seq (.reg [⟨(some 71), (.mv (.t 0)), none⟩, ⟨(some 72), (.callf 244 [(.t 71), (.c (.d (.i .i64 10))), (.c (.d (.i .i64 0)))]), none⟩, ⟨(some 70), (.mv (.t 72)), none⟩, ⟨(some 73), (.extr (.t 70) 0), none⟩, ⟨(some 74), (.extr (.t 70) 1), none⟩, ⟨(some 9), (.mv (.t 73)), none⟩, ⟨(some 10), (.mv (.t 74)), none⟩])
 (.seq (.reg [⟨(some 75), (.mv (.t 9)), none⟩, ⟨(some 76), (.mv (.t 10)), none⟩, ⟨(some 2), (.mv (.t 75)), none⟩, ⟨(some 3), (.mv (.t 76)), none⟩])
 .ret))))), true⟩
/-- internal/strconv.Itoa -/
def a209 : AFn := ⟨5, [.tmp 2],
 (.seq (.reg [⟨(some 2), (.mv (.c (.d (.s [])))), none⟩])
 (.seq (.reg [⟨(some 3), (.mv (.t 0)), none⟩, ⟨(some 4), (.callf 249 [(.t 3), (.c (.d (.i .i64 10)))]), none⟩, ⟨(some 2), (.mv (.t 4)), none⟩])
 .ret)), false⟩
/-- foreman/scope.Below$1 -/
def a212 : AFn := ⟨26, [.tmp 5],
 (.seq (.reg [⟨(some 5), (.mv (.c (.d (.b false)))), none⟩])
 (.seq (.reg [⟨(some 7), (.load false 1 (.t 1)), none⟩, ⟨(some 8), (.mv (.t 0)), none⟩, ⟨(some 9), (.iaS 16 (.t 7) (.t 8)), none⟩, ⟨(some 10), (.fadd 4 (.t 9)), none⟩, ⟨(some 11), (.load false 1 (.t 10)), none⟩, ⟨(some 6), (.mv (.t 11)), none⟩])
 (.seq (.reg [⟨(some 12), (.mv (.t 6)), none⟩, ⟨(some 13), (.load false 1 (.t 2)), none⟩, ⟨(some 14), (.bin .eql .bad (.t 12) (.t 13)), none⟩, ⟨(some 15), (.mv (.t 14)), none⟩, ⟨(some 16), (.mv (.t 6)), (some (15, false))⟩, ⟨(some 17), (.load false 1 (.t 2)), (some (15, false))⟩, ⟨(some 18), (.bin .gtr .bad (.t 16) (.t 17)), (some (15, false))⟩, ⟨(some 19), (.mv (.t 18)), (some (15, false))⟩, ⟨(some 20), (.load false 1 (.t 3)), (some (19, true))⟩, ⟨(some 21), (.mv (.t 6)), (some (19, true))⟩, ⟨(some 22), (.iaS 1 (.t 20) (.t 21)), (some (19, true))⟩, ⟨(some 23), (.load false 1 (.t 22)), (some (19, true))⟩, ⟨(some 24), (.pick (.t 19) (.t 23) (.c (.d (.b false)))), (some (15, false))⟩, ⟨(some 25), (.pick (.t 15) (.c (.d (.b true))) (.t 24)), none⟩, ⟨(some 5), (.mv (.t 25)), none⟩])
 .ret))), false⟩
/-- slices.IndexFunc[[]foreman/snap.field,foreman/snap.field] -/
def a213 : AFn := ⟨19, [.tmp 4],
 (.seq (.reg [⟨(some 4), (.mv (.c (.d (.i .i64 0)))), none⟩])
 (.seq (.seq (.reg [⟨(some 6), (.mv (.t 0)), none⟩, ⟨(some 7), (.len 1 (.t 6)), none⟩, ⟨(some 8), (.mv (.c (.d (.i .i64 0)))), none⟩])
 (.blk 0 (.loop (.seq (.reg [⟨(some 9), (.bin .lss .bad (.t 8) (.t 7)), none⟩])
 (.seq (.cond (.t 9)
 .skip
 (.exit 0))
 (.seq (.blk 1 (.seq (.reg [⟨(some 10), (.mv (.t 8)), none⟩, ⟨(some 5), (.mv (.t 10)), none⟩])
 (.seq (.reg [⟨(some 11), (.mv (.t 1)), none⟩, ⟨(some 12), (.mv (.t 0)), none⟩, ⟨(some 13), (.mv (.t 5)), none⟩, ⟨(some 14), (.iaS 3 (.t 12) (.t 13)), none⟩, ⟨(some 15), (.load true 3 (.t 14)), none⟩, ⟨(some 16), (.callv (.t 11) [(.t 15)]), none⟩])
 (.cond (.t 16)
 (.seq (.reg [⟨(some 17), (.mv (.t 5)), none⟩, ⟨(some 4), (.mv (.t 17)), none⟩])
 .ret)
 .skip))))
 (.reg [⟨(some 18), (.bin .add .bad (.t 8) (.c (.d (.i .i64 1)))), none⟩, ⟨(some 8), (.mv (.t 18)), none⟩])))))))
 (.seq (.reg [⟨(some 4), (.mv (.c (.d (.i .i64 (-1))))), none⟩])
 .ret))), false⟩
/-- slices.IndexFunc[[]int,int] -/
def a214 : AFn := ⟨19, [.tmp 4],
 (.seq (.reg [⟨(some 4), (.mv (.c (.d (.i .i64 0)))), none⟩])
 (.seq (.seq (.reg [⟨(some 6), (.mv (.t 0)), none⟩, ⟨(some 7), (.len 1 (.t 6)), none⟩, ⟨(some 8), (.mv (.c (.d (.i .i64 0)))), none⟩])
 (.blk 0 (.loop (.seq (.reg [⟨(some 9), (.bin .lss .bad (.t 8) (.t 7)), none⟩])
 (.seq (.cond (.t 9)
 .skip
 (.exit 0))
 (.seq (.blk 1 (.seq (.reg [⟨(some 10), (.mv (.t 8)), none⟩, ⟨(some 5), (.mv (.t 10)), none⟩])
 (.seq (.reg [⟨(some 11), (.mv (.t 1)), none⟩, ⟨(some 12), (.mv (.t 0)), none⟩, ⟨(some 13), (.mv (.t 5)), none⟩, ⟨(some 14), (.iaS 1 (.t 12) (.t 13)), none⟩, ⟨(some 15), (.load false 1 (.t 14)), none⟩, ⟨(some 16), (.callv (.t 11) [(.t 15)]), none⟩])
 (.cond (.t 16)
 (.seq (.reg [⟨(some 17), (.mv (.t 5)), none⟩, ⟨(some 4), (.mv (.t 17)), none⟩])
 .ret)
 .skip))))
 (.reg [⟨(some 18), (.bin .add .bad (.t 8) (.c (.d (.i .i64 1)))), none⟩, ⟨(some 8), (.mv (.t 18)), none⟩])))))))
 (.seq (.reg [⟨(some 4), (.mv (.c (.d (.i .i64 (-1))))), none⟩])
 .ret))), false⟩
/-- foreman/ident.Right -/
def a215 : AFn := ⟨14, [.tmp 2],
 (.seq (.reg [⟨(some 1), (.box 96 (.t 0)), none⟩, ⟨(some 2), (.mv (.c (.d (.b false)))), none⟩])
 (.seq (.reg [⟨(some 3), (.mv (.c (.d (.fn (.func 251) [] [])))), none⟩])
 (.seq (.reg [⟨(some 4), (.fadd 0 (.t 1)), none⟩, ⟨(some 5), (.load false 1 (.t 4)), none⟩, ⟨(some 6), (.callf 159 [(.t 5)]), none⟩, ⟨(some 7), (.mv (.t 6)), none⟩, ⟨(some 8), (.fadd 1 (.t 1)), (some (7, true))⟩, ⟨(some 9), (.load false 1 (.t 8)), (some (7, true))⟩, ⟨(some 10), (.mv (.t 3)), (some (7, true))⟩, ⟨(some 11), (.callf 252 [(.t 9), (.t 10)]), (some (7, true))⟩, ⟨(some 12), (.un .not (.t 11)), (some (7, true))⟩, ⟨(some 13), (.pick (.t 7) (.t 12) (.c (.d (.b false)))), none⟩, ⟨(some 2), (.mv (.t 13)), none⟩])
 .ret))), false⟩
/-- (*strings.Builder).WriteString -/
def a216 : AFn := ⟨19, [.tmp 4, .tmp 5],
 (.seq (.reg [⟨(some 4), (.mv (.c (.d (.i .i64 0)))), none⟩, ⟨(some 5), (.mv (.c (.d .nili))), none⟩])
 (.seq (.reg [⟨(some 6), (.mv (.t 0)), none⟩, ⟨(some 7), (.callf 253 [(.t 6)]), none⟩])
 (.seq (.reg [⟨(some 8), (.mv (.t 0)), none⟩, ⟨(some 9), (.mv (.t 0)), none⟩, ⟨(some 10), (.nilchk (.t 9)), none⟩, ⟨(some 11), (.fadd 1 (.t 10)), none⟩, ⟨(some 12), (.load false 1 (.t 11)), none⟩, ⟨(some 13), (.mv (.t 1)), none⟩, ⟨(some 14), (.app 5 1 1 false (.t 12) (.t 13)), none⟩, ⟨(some 15), (.nilchk (.t 8)), none⟩, ⟨(some 16), (.fadd 1 (.t 15)), none⟩, ⟨none, (.store 1 (.t 16) (.t 14)), none⟩])
 (.seq (.reg [⟨(some 17), (.mv (.t 1)), none⟩, ⟨(some 18), (.len 0 (.t 17)), none⟩, ⟨(some 4), (.mv (.t 18)), none⟩, ⟨(some 5), (.mv (.c (.d .nili))), none⟩])
 .ret)))), true⟩
/-- (*strings.Builder).String -/
def a217 : AFn := ⟨14, [.tmp 2],
 (.seq (.reg [⟨(some 2), (.mv (.c (.d (.s [])))), none⟩])
 (.seq (.dreg 0 [⟨⟨(some 3), (.mv (.t 0)), none⟩, 0, false, [], none⟩, ⟨⟨(some 4), (.nilchk (.t 3)), none⟩, 1, false, [], none⟩, ⟨⟨(some 5), (.fadd 1 (.t 4)), none⟩, 2, false, [], none⟩, ⟨⟨(some 6), (.load false 1 (.t 5)), none⟩, 3, false, [], none⟩, ⟨⟨(some 7), (.ssd (.t 6)), none⟩, 4, true, [], none⟩, ⟨⟨(some 8), (.mv (.t 0)), none⟩, 5, false, [], none⟩, ⟨⟨(some 9), (.nilchk (.t 8)), none⟩, 6, false, [], none⟩, ⟨⟨(some 10), (.fadd 1 (.t 9)), none⟩, 7, false, [], none⟩, ⟨⟨(some 11), (.load false 1 (.t 10)), none⟩, 8, false, [], none⟩, ⟨⟨(some 12), (.len 1 (.t 11)), none⟩, 9, false, [], none⟩, ⟨⟨(some 13), (.uss 5 (.t 7) (.t 12)), none⟩, 10, true, [], none⟩, ⟨⟨(some 2), (.mv (.t 13)), none⟩, 11, false, [10, 4], none⟩])
 .ret)), false⟩
/-- foreman/scope.up$1 -/
def a218 : AFn := ⟨25, [],
 (.seq (.seq (.reg [⟨(some 5), (.load false 1 (.t 1)), none⟩, ⟨(some 6), (.load false 1 (.t 2)), none⟩, ⟨(some 7), (.callf 174 [(.t 5), (.t 6)]), none⟩, ⟨(some 8), (.un .not (.t 7)), none⟩])
 (.cond (.t 8)
 .ret
 .skip))
 (.seq (.reg [⟨(some 9), (.load false 1 (.t 1)), none⟩, ⟨(some 10), (.load false 1 (.t 2)), none⟩, ⟨(some 11), (.iaS 16 (.t 9) (.t 10)), none⟩, ⟨(some 12), (.fadd 4 (.t 11)), none⟩, ⟨(some 13), (.load false 1 (.t 12)), none⟩, ⟨(some 4), (.mv (.t 13)), none⟩])
 (.blk 0 (.loop (.seq (.seq (.reg [⟨(some 14), (.mv (.t 4)), none⟩, ⟨(some 15), (.bin .geq .bad (.t 14) (.c (.d (.i .i64 0)))), none⟩])
 (.cond (.t 15)
 .skip
 (.exit 0)))
 (.seq (.blk 1 (.seq (.reg [⟨(some 21), (.mv (.t 0)), none⟩, ⟨(some 22), (.mv (.t 4)), none⟩, ⟨(some 23), (.callv (.t 21) [(.t 22)]), none⟩, ⟨(some 24), (.un .not (.t 23)), none⟩])
 (.cond (.t 24)
 .ret
 .skip)))
 (.reg [⟨(some 16), (.load false 1 (.t 1)), none⟩, ⟨(some 17), (.mv (.t 4)), none⟩, ⟨(some 18), (.iaS 16 (.t 16) (.t 17)), none⟩, ⟨(some 19), (.fadd 4 (.t 18)), none⟩, ⟨(some 20), (.load false 1 (.t 19)), none⟩, ⟨(some 4), (.mv (.t 20)), none⟩]))))))), false⟩
/-- (*foreman/order.Order).Put -/
def a219 : AFn := ⟨69, [.tmp 6, .tmp 7],
 (.seq (.reg [⟨(some 6), (.mv (.c (.d (.i .i64 0)))), none⟩, ⟨(some 7), (.mv (.c (.d (.i .i64 0)))), none⟩])
 (.seq (.blk 0 (.seq (.reg [⟨(some 14), (.mv (.t 0)), none⟩, ⟨(some 15), (.callf 55 [(.t 14)]), none⟩, ⟨(some 13), (.mv (.t 15)), none⟩])
 (.cond (.t 13)
 (.seq (.reg [⟨(some 6), (.mv (.c (.d (.i .i64 0)))), none⟩, ⟨(some 7), (.mv (.c (.d (.i .i64 1)))), none⟩])
 .ret)
 (.seq (.reg [⟨(some 17), (.mv (.t 0)), none⟩, ⟨(some 18), (.mv (.t 1)), none⟩, ⟨(some 19), (.callf 220 [(.t 17), (.t 18)]), none⟩, ⟨(some 20), (.un .not (.t 19)), none⟩, ⟨(some 21), (.mv (.t 20)), none⟩, ⟨(some 22), (.mv (.t 0)), (some (21, false))⟩, ⟨(some 23), (.mv (.t 2)), (some (21, false))⟩, ⟨(some 24), (.callf 220 [(.t 22), (.t 23)]), (some (21, false))⟩, ⟨(some 25), (.un .not (.t 24)), (some (21, false))⟩, ⟨(some 26), (.pick (.t 21) (.c (.d (.b true))) (.t 25)), none⟩, ⟨(some 16), (.mv (.t 26)), none⟩])
 (.cond (.t 16)
 (.seq (.reg [⟨(some 6), (.mv (.c (.d (.i .i64 0)))), none⟩, ⟨(some 7), (.mv (.c (.d (.i .i64 2)))), none⟩])
 .ret)
 (.seq (.reg [⟨(some 28), (.mv (.t 1)), none⟩, ⟨(some 29), (.mv (.t 2)), none⟩, ⟨(some 30), (.bin .eql .bad (.t 28) (.t 29)), none⟩, ⟨(some 27), (.mv (.t 30)), none⟩])
 (.cond (.t 27)
 (.seq (.reg [⟨(some 6), (.mv (.c (.d (.i .i64 0)))), none⟩, ⟨(some 7), (.mv (.c (.d (.i .i64 25)))), none⟩])
 .ret)
 .skip)))))))
 (.seq (.reg [⟨(some 8), (.mv (.c (.d (.i .i64 0)))), none⟩])
 (.seq (.seq (.dreg 0 [⟨⟨(some 31), (.mv (.t 0)), none⟩, 0, false, [], none⟩, ⟨⟨(some 32), (.nilchk (.t 31)), none⟩, 1, false, [], none⟩, ⟨⟨(some 33), (.fadd 1 (.t 32)), none⟩, 2, false, [], none⟩, ⟨⟨(some 34), (.load false 1 (.t 33)), none⟩, 3, false, [], none⟩, ⟨⟨(some 35), (.mv (.t 1)), none⟩, 4, false, [], none⟩, ⟨⟨(some 36), (.iaS 1 (.t 34) (.t 35)), none⟩, 5, false, [], none⟩, ⟨⟨(some 37), (.load false 1 (.t 36)), none⟩, 6, false, [], none⟩, ⟨⟨(some 38), (.mv (.t 0)), none⟩, 7, false, [], none⟩, ⟨⟨(some 39), (.nilchk (.t 38)), none⟩, 8, false, [], none⟩, ⟨⟨(some 40), (.fadd 1 (.t 39)), none⟩, 9, false, [], none⟩, ⟨⟨(some 41), (.load false 1 (.t 40)), none⟩, 10, false, [], none⟩, ⟨⟨(some 42), (.mv (.t 2)), none⟩, 11, false, [], none⟩, ⟨⟨(some 43), (.iaS 1 (.t 41) (.t 42)), none⟩, 12, false, [], none⟩, ⟨⟨(some 44), (.load false 1 (.t 43)), none⟩, 13, false, [], none⟩, ⟨⟨(some 45), (.bin .gtr .bad (.t 37) (.t 44)), none⟩, 14, false, [], none⟩])
 (.cond (.t 45)
 (.seq (.reg [⟨(some 47), (.mv (.t 0)), none⟩, ⟨(some 48), (.mv (.t 1)), none⟩, ⟨(some 49), (.mv (.t 2)), none⟩, ⟨(some 50), (.callf 254 [(.t 47), (.t 48), (.t 49)]), none⟩, ⟨(some 46), (.mv (.t 50)), none⟩, ⟨(some 51), (.extr (.t 46) 0), none⟩, ⟨(some 52), (.extr (.t 46) 1), none⟩, ⟨(some 9), (.mv (.t 51)), none⟩, ⟨(some 10), (.mv (.t 52)), none⟩])
 (.seq (.seq (.reg [⟨(some 53), (.mv (.t 10)), none⟩, ⟨(some 54), (.bin .neq .bad (.t 53) (.c (.d (.i .i64 0)))), none⟩])
 (.cond (.t 54)
 (.seq (.reg [⟨(some 55), (.mv (.t 10)), none⟩, ⟨(some 6), (.mv (.c (.d (.i .i64 0)))), none⟩, ⟨(some 7), (.mv (.t 55)), none⟩])
 .ret)
 .skip))
 (.reg [⟨(some 56), (.mv (.t 9)), none⟩, ⟨(some 8), (.mv (.t 56)), none⟩])))
 .skip))
 (.seq (.reg [⟨(some 58), (.mv (.t 0)), none⟩, ⟨(some 59), (.nilchk (.t 58)), none⟩, ⟨(some 60), (.fadd 0 (.t 59)), none⟩, ⟨(some 61), (.load false 1 (.t 60)), none⟩, ⟨(some 62), (.mv (.t 1)), none⟩, ⟨(some 63), (.mv (.t 2)), none⟩, ⟨(some 64), (.callf 255 [(.t 61), (.t 62), (.t 63)]), none⟩, ⟨(some 57), (.mv (.t 64)), none⟩, ⟨(some 65), (.extr (.t 57) 0), none⟩, ⟨(some 66), (.extr (.t 57) 1), none⟩, ⟨(some 11), (.mv (.t 65)), none⟩, ⟨(some 12), (.mv (.t 66)), none⟩])
 (.seq (.reg [⟨(some 67), (.mv (.t 8)), none⟩, ⟨(some 68), (.mv (.t 12)), none⟩, ⟨(some 6), (.mv (.t 67)), none⟩, ⟨(some 7), (.mv (.t 68)), none⟩])
 .ret)))))), false⟩
/-- (*foreman/order.Order).is -/
def a220 : AFn := ⟨13, [.tmp 4],
 (.seq (.reg [⟨(some 4), (.mv (.c (.d (.b false)))), none⟩])
 (.seq (.reg [⟨(some 5), (.mv (.t 1)), none⟩, ⟨(some 6), (.bin .geq .bad (.t 5) (.c (.d (.i .i64 0)))), none⟩, ⟨(some 7), (.mv (.t 6)), none⟩, ⟨(some 8), (.mv (.t 1)), (some (7, true))⟩, ⟨(some 9), (.mv (.t 0)), (some (7, true))⟩, ⟨(some 10), (.callf 132 [(.t 9)]), (some (7, true))⟩, ⟨(some 11), (.bin .lss .bad (.t 8) (.t 10)), (some (7, true))⟩, ⟨(some 12), (.pick (.t 7) (.t 11) (.c (.d (.b false)))), none⟩, ⟨(some 4), (.mv (.t 12)), none⟩])
 .ret)), false⟩
/-- strings.makeASCIISet -/
def a223 : AFn := ⟨21, [.cell 2 true 256, .tmp 3],
 (.seq (.reg [⟨(some 2), (.alloc 268 [(.d (.b false)), (.d (.b false)), (.d (.b false)), (.d (.b false)), (.d (.b false)), (.d (.b false)), (.d (.b false)), (.d (.b false)), (.d (.b false)), (.d (.b false)), (.d (.b false)), (.d (.b false)), (.d (.b false)), (.d (.b false)), (.d (.b false)), (.d (.b false)), (.d (.b false)), (.d (.b false)), (.d (.b false)), (.d (.b false)), (.d (.b false)), (.d (.b false)), (.d (.b false)), (.d (.b false)), (.d (.b false)), (.d (.b false)), (.d (.b false)), (.d (.b false)), (.d (.b false)), (.d (.b false)), (.d (.b false)), (.d (.b false)), (.d (.b false)), (.d (.b false)), (.d (.b false)), (.d (.b false)), (.d (.b false)), (.d (.b false)), (.d (.b false)), (.d (.b false)), (.d (.b false)), (.d (.b false)), (.d (.b false)), (.d (.b false)), (.d (.b false)), (.d (.b false)), (.d (.b false)), (.d (.b false)), (.d (.b false)), (.d (.b false)), (.d (.b false)), (.d (.b false)), (.d (.b false)), (.d (.b false)), (.d (.b false)), (.d (.b false)), (.d (.b false)), (.d (.b false)), (.d (.b false)), (.d (.b false)), (.d (.b false)), (.d (.b false)), (.d (.b false)), (.d (.b false)), (.d (.b false)), (.d (.b false)), (.d (.b false)), (.d (.b false)), (.d (.b false)), (.d (.b false)), (.d (.b false)), (.d (.b false)), (.d (.b false)), (.d (.b false)), (.d (.b false)), (.d (.b false)), (.d (.b false)), (.d (.b false)), (.d (.b false)), (.d (.b false)), (.d (.b false)), (.d (.b false)), (.d (.b false)), (.d (.b false)), (.d (.b false)), (.d (.b false)), (.d (.b false)), (.d (.b false)), (.d (.b false)), (.d (.b false)), (.d (.b false)), (.d (.b false)), (.d (.b false)), (.d (.b false)), (.d (.b false)), (.d (.b false)), (.d (.b false)), (.d (.b false)), (.d (.b false)), (.d (.b false)), (.d (.b false)), (.d (.b false)), (.d (.b false)), (.d (.b false)), (.d (.b false)), (.d (.b false)), (.d (.b false)), (.d (.b false)), (.d (.b false)), (.d (.b false)), (.d (.b false)), (.d (.b false)), (.d (.b false)), (.d (.b false)), (.d (.b false)), (.d (.b false)), (.d (.b false)), (.d (.b false)), (.d (.b false)), (.d (.b false)), (.d (.b false)), (.d (.b false)), (.d (.b false)), (.d (.b false)), (.d (.b false)), (.d (.b false)), (.d (.b false)), (.d (.b false)), (.d (.b false)), (.d (.b false)), (.d (.b false)), (.d (.b false)), (.d (.b false)), (.d (.b false)), (.d (.b false)), (.d (.b false)), (.d (.b false)), (.d (.b false)), (.d (.b false)), (.d (.b false)), (.d (.b false)), (.d (.b false)), (.d (.b false)), (.d (.b false)), (.d (.b false)), (.d (.b false)), (.d (.b false)), (.d (.b false)), (.d (.b false)), (.d (.b false)), (.d (.b false)), (.d (.b false)), (.d (.b false)), (.d (.b false)), (.d (.b false)), (.d (.b false)), (.d (.b false)), (.d (.b false)), (.d (.b false)), (.d (.b false)), (.d (.b false)), (.d (.b false)), (.d (.b false)), (.d (.b false)), (.d (.b false)), (.d (.b false)), (.d (.b false)), (.d (.b false)), (.d (.b false)), (.d (.b false)), (.d (.b false)), (.d (.b false)), (.d (.b false)), (.d (.b false)), (.d (.b false)), (.d (.b false)), (.d (.b false)), (.d (.b false)), (.d (.b false)), (.d (.b false)), (.d (.b false)), (.d (.b false)), (.d (.b false)), (.d (.b false)), (.d (.b false)), (.d (.b false)), (.d (.b false)), (.d (.b false)), (.d (.b false)), (.d (.b false)), (.d (.b false)), (.d (.b false)), (.d (.b false)), (.d (.b false)), (.d (.b false)), (.d (.b false)), (.d (.b false)), (.d (.b false)), (.d (.b false)), (.d (.b false)), (.d (.b false)), (.d (.b false)), (.d (.b false)), (.d (.b false)), (.d (.b false)), (.d (.b false)), (.d (.b false)), (.d (.b false)), (.d (.b false)), (.d (.b false)), (.d (.b false)), (.d (.b false)), (.d (.b false)), (.d (.b false)), (.d (.b false)), (.d (.b false)), (.d (.b false)), (.d (.b false)), (.d (.b false)), (.d (.b false)), (.d (.b false)), (.d (.b false)), (.d (.b false)), (.d (.b false)), (.d (.b false)), (.d (.b false)), (.d (.b false)), (.d (.b false)), (.d (.b false)), (.d (.b false)), (.d (.b false)), (.d (.b false)), (.d (.b false)), (.d (.b false)), (.d (.b false)), (.d (.b false)), (.d (.b false)), (.d (.b false)), (.d (.b false)), (.d (.b false)), (.d (.b false)), (.d (.b false)), (.d (.b false)), (.d (.b false)), (.d (.b false)), (.d (.b false)), (.d (.b false)), (.d (.b false)), (.d (.b false)), (.d (.b false)), (.d (.b false)), (.d (.b false)), (.d (.b false)), (.d (.b false)), (.d (.b false)), (.d (.b false))]), none⟩, ⟨(some 3), (.mv (.c (.d (.b false)))), none⟩])
 (.seq (.seq (.reg [⟨(some 4), (.mv (.c (.d (.i .i64 0)))), none⟩])
 (.blk 0 (.loop (.seq (.seq (.reg [⟨(some 6), (.mv (.t 4)), none⟩, ⟨(some 7), (.mv (.t 0)), none⟩, ⟨(some 8), (.len 0 (.t 7)), none⟩, ⟨(some 9), (.bin .lss .bad (.t 6) (.t 8)), none⟩])
 (.cond (.t 9)
 .skip
 (.exit 0)))
 (.seq (.blk 1 (.seq (.reg [⟨(some 12), (.mv (.t 0)), none⟩, ⟨(some 13), (.mv (.t 4)), none⟩, ⟨(some 14), (.ixS (.t 12) (.t 13)), none⟩, ⟨(some 5), (.mv (.t 14)), none⟩])
 (.seq (.seq (.reg [⟨(some 15), (.mv (.t 5)), none⟩, ⟨(some 16), (.bin .geq .bad (.t 15) (.c (.d (.i .u8 128)))), none⟩])
 (.cond (.t 16)
 (.seq (.reg [⟨(some 17), (.load true 256 (.t 2)), none⟩, ⟨none, (.store 256 (.t 2) (.t 17)), none⟩, ⟨(some 3), (.mv (.c (.d (.b false)))), none⟩])
 .ret)
 .skip))
 (.reg [⟨(some 18), (.mv (.t 5)), none⟩, ⟨(some 19), (.iaA 256 1 (.t 2) (.t 18)), none⟩, ⟨none, (.store 1 (.t 19) (.c (.d (.b true)))), none⟩]))))
 (.reg [⟨(some 10), (.mv (.t 4)), none⟩, ⟨(some 11), (.bin .add .bad (.t 10) (.c (.d (.i .i64 1)))), none⟩, ⟨(some 4), (.mv (.t 11)), none⟩]))))))
 (.seq (.reg [⟨(some 20), (.load true 256 (.t 2)), none⟩, ⟨none, (.store 256 (.t 2) (.t 20)), none⟩, ⟨(some 3), (.mv (.c (.d (.b true)))), none⟩])
 .ret))), false⟩
/-- strings.trimLeftASCII -/
def a224 : AFn := ⟨16, [.tmp 4],
 (.seq (.reg [⟨(some 4), (.mv (.c (.d (.s [])))), none⟩])
 (.seq (.blk 0 (.loop (.seq (.seq (.reg [⟨(some 5), (.mv (.t 0)), none⟩, ⟨(some 6), (.len 0 (.t 5)), none⟩, ⟨(some 7), (.bin .gtr .bad (.t 6) (.c (.d (.i .i64 0)))), none⟩])
 (.cond (.t 7)
 .skip
 (.exit 0)))
 (.blk 1 (.seq (.seq (.reg [⟨(some 8), (.mv (.t 1)), none⟩, ⟨(some 9), (.mv (.t 0)), none⟩, ⟨(some 10), (.ixS (.t 9) (.c (.d (.i .i64 0)))), none⟩, ⟨(some 11), (.callf 256 [(.t 8), (.t 10)]), none⟩, ⟨(some 12), (.un .not (.t 11)), none⟩])
 (.cond (.t 12)
 (.exit 0)
 .skip))
 (.reg [⟨(some 13), (.mv (.t 0)), none⟩, ⟨(some 14), (.slStr (.t 13) (some (.c (.d (.i .i64 1)))) none), none⟩, ⟨(some 0), (.mv (.t 14)), none⟩]))))))
 (.seq (.reg [⟨(some 15), (.mv (.t 0)), none⟩, ⟨(some 4), (.mv (.t 15)), none⟩])
 .ret))), false⟩
/-- strings.trimRightASCII -/
def a225 : AFn := ⟨22, [.tmp 4],
 (.seq (.reg [⟨(some 4), (.mv (.c (.d (.s [])))), none⟩])
 (.seq (.blk 0 (.loop (.seq (.seq (.reg [⟨(some 5), (.mv (.t 0)), none⟩, ⟨(some 6), (.len 0 (.t 5)), none⟩, ⟨(some 7), (.bin .gtr .bad (.t 6) (.c (.d (.i .i64 0)))), none⟩])
 (.cond (.t 7)
 .skip
 (.exit 0)))
 (.blk 1 (.seq (.seq (.reg [⟨(some 8), (.mv (.t 1)), none⟩, ⟨(some 9), (.mv (.t 0)), none⟩, ⟨(some 10), (.mv (.t 0)), none⟩, ⟨(some 11), (.len 0 (.t 10)), none⟩, ⟨(some 12), (.bin .sub .bad (.t 11) (.c (.d (.i .i64 1)))), none⟩, ⟨(some 13), (.ixS (.t 9) (.t 12)), none⟩, ⟨(some 14), (.callf 256 [(.t 8), (.t 13)]), none⟩, ⟨(some 15), (.un .not (.t 14)), none⟩])
 (.cond (.t 15)
 (.exit 0)
 .skip))
 (.reg [⟨(some 16), (.mv (.t 0)), none⟩, ⟨(some 17), (.mv (.t 0)), none⟩, ⟨(some 18), (.len 0 (.t 17)), none⟩, ⟨(some 19), (.bin .sub .bad (.t 18) (.c (.d (.i .i64 1)))), none⟩, ⟨(some 20), (.slStr (.t 16) none (some (.t 19))), none⟩, ⟨(some 0), (.mv (.t 20)), none⟩]))))))
 (.seq (.reg [⟨(some 21), (.mv (.t 0)), none⟩, ⟨(some 4), (.mv (.t 21)), none⟩])
 .ret))), false⟩
/-- (foreman/check.asked).has -/
def a228 : AFn := ⟨9, [.tmp 4],
 (.seq (.reg [⟨(some 2), (.box 196 (.t 0)), none⟩, ⟨(some 4), (.mv (.c (.d (.b false)))), none⟩])
 (.seq (.reg [⟨(some 5), (.fadd 8 (.t 2)), none⟩, ⟨(some 6), (.load false 1 (.t 5)), none⟩, ⟨(some 7), (.mv (.t 1)), none⟩, ⟨(some 8), (.callf 70 [(.t 6), (.t 7)]), none⟩, ⟨(some 4), (.mv (.t 8)), none⟩])
 .ret)), false⟩
/-- (foreman/check.asked).wide$1 -/
def a229 : AFn := ⟨14, [.tmp 3],
 (.seq (.reg [⟨(some 2), (.box 58 (.t 0)), none⟩, ⟨(some 3), (.mv (.c (.d (.b false)))), none⟩])
 (.seq (.reg [⟨(some 4), (.load true 6 (.t 2)), none⟩, ⟨(some 5), (.callf 230 [(.t 4)]), none⟩, ⟨(some 6), (.mv (.t 5)), none⟩, ⟨(some 7), (.fadd 4 (.t 2)), (some (6, true))⟩, ⟨(some 8), (.load false 1 (.t 7)), (some (6, true))⟩, ⟨(some 9), (.fadd 0 (.t 1)), (some (6, true))⟩, ⟨(some 10), (.fadd 2 (.t 9)), (some (6, true))⟩, ⟨(some 11), (.load false 1 (.t 10)), (some (6, true))⟩, ⟨(some 12), (.bin .gtr .bad (.t 8) (.t 11)), (some (6, true))⟩, ⟨(some 13), (.pick (.t 6) (.t 12) (.c (.d (.b false)))), none⟩, ⟨(some 3), (.mv (.t 13)), none⟩])
 .ret)), false⟩
/-- foreman/check.isMap -/
def a230 : AFn := ⟨6, [.tmp 2],
 (.seq (.reg [⟨(some 1), (.box 58 (.t 0)), none⟩, ⟨(some 2), (.mv (.c (.d (.b false)))), none⟩])
 (.seq (.reg [⟨(some 3), (.fadd 1 (.t 1)), none⟩, ⟨(some 4), (.load false 1 (.t 3)), none⟩, ⟨(some 5), (.bin .eql .bad (.t 4) (.c (.d (.i .u8 1)))), none⟩, ⟨(some 2), (.mv (.t 5)), none⟩])
 .ret)), false⟩
/-- (foreman/check.asked).twice$1 -/
def a231 : AFn := ⟨14, [.tmp 3],
 (.seq (.reg [⟨(some 2), (.box 58 (.t 0)), none⟩, ⟨(some 3), (.mv (.c (.d (.b false)))), none⟩])
 (.seq (.reg [⟨(some 4), (.load false 1 (.t 1)), none⟩, ⟨(some 5), (.fadd 0 (.t 2)), none⟩, ⟨(some 6), (.load false 1 (.t 5)), none⟩, ⟨(some 7), (.look (.one .s) false [(.d (.i .i64 0))] false (.t 4) (.t 6)), none⟩, ⟨(some 8), (.bin .add .bad (.t 7) (.c (.d (.i .i64 1)))), none⟩, ⟨none, (.mupd (.one .s) (.t 4) (.t 6) (.t 8)), none⟩])
 (.seq (.reg [⟨(some 9), (.load false 1 (.t 1)), none⟩, ⟨(some 10), (.fadd 0 (.t 2)), none⟩, ⟨(some 11), (.load false 1 (.t 10)), none⟩, ⟨(some 12), (.look (.one .s) false [(.d (.i .i64 0))] false (.t 9) (.t 11)), none⟩, ⟨(some 13), (.bin .gtr .bad (.t 12) (.c (.d (.i .i64 1)))), none⟩, ⟨(some 3), (.mv (.t 13)), none⟩])
 .ret))), false⟩
/-- (foreman/check.asked).refers$1 -/
def a232 : AFn := ⟨19, [.tmp 3],
 (.seq (.reg [⟨(some 2), (.box 58 (.t 0)), none⟩, ⟨(some 3), (.mv (.c (.d (.b false)))), none⟩])
 (.seq (.reg [⟨(some 4), (.fadd 2 (.t 2)), none⟩, ⟨(some 5), (.load false 1 (.t 4)), none⟩, ⟨(some 6), (.load true 9 (.t 1)), none⟩, ⟨(some 7), (.mkfn (.func 233) [(.t 6)] []), none⟩, ⟨(some 8), (.callf 138 [(.t 5), (.t 7)]), none⟩, ⟨(some 9), (.mv (.t 8)), none⟩, ⟨(some 10), (.load true 6 (.t 2)), (some (9, false))⟩, ⟨(some 11), (.callf 230 [(.t 10)]), (some (9, false))⟩, ⟨(some 12), (.mv (.t 11)), (some (9, false))⟩, ⟨(some 13), (.load true 9 (.t 1)), (some (12, true))⟩, ⟨(some 14), (.fadd 3 (.t 2)), (some (12, true))⟩, ⟨(some 15), (.load false 1 (.t 14)), (some (12, true))⟩, ⟨(some 16), (.callf 233 [(.t 13), (.t 15)]), (some (12, true))⟩, ⟨(some 17), (.pick (.t 12) (.t 16) (.c (.d (.b false)))), (some (9, false))⟩, ⟨(some 18), (.pick (.t 9) (.c (.d (.b true))) (.t 17)), none⟩, ⟨(some 3), (.mv (.t 18)), none⟩])
 .ret)), false⟩
/-- (foreman/check.asked).lost -/
def a233 : AFn := ⟨17, [.tmp 4],
 (.seq (.reg [⟨(some 2), (.box 196 (.t 0)), none⟩, ⟨(some 4), (.mv (.c (.d (.b false)))), none⟩])
 (.seq (.reg [⟨(some 9), (.load true 9 (.t 2)), none⟩, ⟨(some 10), (.mv (.t 1)), none⟩, ⟨(some 11), (.callf 197 [(.t 9), (.t 10)]), none⟩, ⟨(some 8), (.mv (.t 11)), none⟩, ⟨(some 12), (.extr (.t 8) 0), none⟩, ⟨(some 13), (.extr (.t 8) 1), none⟩, ⟨(some 14), (.extr (.t 8) 2), none⟩, ⟨(some 5), (.mv (.t 12)), none⟩, ⟨(some 6), (.mv (.t 13)), none⟩, ⟨(some 7), (.mv (.t 14)), none⟩])
 (.seq (.reg [⟨(some 15), (.mv (.t 7)), none⟩, ⟨(some 16), (.un .not (.t 15)), none⟩, ⟨(some 4), (.mv (.t 16)), none⟩])
 .ret))), false⟩
/-- foreman/check.Cost -/
def a234 : AFn := ⟨21, [.tmp 2],
 (.seq (.reg [⟨(some 1), (.box 58 (.t 0)), none⟩, ⟨(some 2), (.mv (.c (.d (.i .i64 0)))), none⟩])
 (.seq (.reg [⟨(some 3), (.mv (.c (.d (.i .i64 1)))), none⟩])
 (.seq (.seq (.reg [⟨(some 5), (.fadd 1 (.t 1)), none⟩, ⟨(some 6), (.load false 1 (.t 5)), none⟩, ⟨(some 7), (.bin .eql .bad (.t 6) (.c (.d (.i .u8 1)))), none⟩])
 (.cond (.t 7)
 (.reg [⟨(some 8), (.fadd 4 (.t 1)), none⟩, ⟨(some 9), (.load false 1 (.t 8)), none⟩, ⟨(some 3), (.mv (.t 9)), none⟩])
 .skip))
 (.seq (.reg [⟨(some 10), (.mv (.t 3)), none⟩, ⟨(some 11), (.fadd 5 (.t 1)), none⟩, ⟨(some 12), (.load false 1 (.t 11)), none⟩, ⟨(some 13), (.bin .add .bad (.c (.d (.i .i64 1))) (.t 12)), none⟩, ⟨(some 14), (.bin .mul .bad (.t 10) (.t 13)), none⟩, ⟨(some 4), (.mv (.t 14)), none⟩])
 (.seq (.seq (.reg [⟨(some 15), (.fadd 1 (.t 1)), none⟩, ⟨(some 16), (.load false 1 (.t 15)), none⟩, ⟨(some 17), (.bin .eql .bad (.t 16) (.c (.d (.i .u8 1)))), none⟩])
 (.cond (.t 17)
 (.reg [⟨(some 18), (.mv (.t 4)), none⟩, ⟨(some 19), (.bin .add .bad (.t 18) (.c (.d (.i .i64 1)))), none⟩, ⟨(some 4), (.mv (.t 19)), none⟩])
 .skip))
 (.seq (.reg [⟨(some 20), (.mv (.t 4)), none⟩, ⟨(some 2), (.mv (.t 20)), none⟩])
 .ret)))))), false⟩
/-- (foreman/check.asked).over$1 -/
def a235 : AFn := ⟨59, [.tmp 3],
 (.seq (.reg [⟨(some 2), (.box 58 (.t 0)), none⟩, ⟨(some 3), (.mv (.c (.d (.b false)))), none⟩])
 (.seq (.seq (.reg [⟨(some 7), (.load true 6 (.t 2)), none⟩, ⟨(some 8), (.callf 230 [(.t 7)]), none⟩, ⟨(some 9), (.un .not (.t 8)), none⟩])
 (.cond (.t 9)
 (.seq (.reg [⟨(some 3), (.mv (.c (.d (.b false)))), none⟩])
 .ret)
 .skip))
 (.seq (.seq (.reg [⟨(some 11), (.load true 9 (.t 1)), none⟩, ⟨(some 12), (.fadd 3 (.t 2)), none⟩, ⟨(some 13), (.load false 1 (.t 12)), none⟩, ⟨(some 14), (.callf 197 [(.t 11), (.t 13)]), none⟩, ⟨(some 10), (.mv (.t 14)), none⟩, ⟨(some 15), (.extr (.t 10) 0), none⟩, ⟨(some 16), (.extr (.t 10) 1), none⟩, ⟨(some 17), (.extr (.t 10) 2), none⟩, ⟨(some 4), (.mv (.t 15)), none⟩, ⟨(some 5), (.mv (.t 16)), none⟩, ⟨(some 6), (.mv (.t 17)), none⟩])
 (.blk 0 (.seq (.reg [⟨(some 19), (.mv (.t 4)), none⟩, ⟨(some 20), (.bin .geq .bad (.t 19) (.c (.d (.i .i64 0)))), none⟩, ⟨(some 18), (.mv (.t 20)), none⟩])
 (.cond (.t 18)
 (.seq (.dreg 0 [⟨⟨(some 21), (.fadd 8 (.t 1)), none⟩, 0, false, [], none⟩, ⟨⟨(some 22), (.load false 1 (.t 21)), none⟩, 1, false, [], none⟩, ⟨⟨(some 23), (.mv (.t 4)), none⟩, 2, false, [], none⟩, ⟨⟨(some 24), (.iaS 6 (.t 22) (.t 23)), none⟩, 3, false, [], none⟩, ⟨⟨(some 25), (.load true 6 (.t 24)), none⟩, 4, false, [], none⟩, ⟨⟨(some 26), (.callf 230 [(.t 25)]), none⟩, 5, true, [], none⟩, ⟨⟨(some 27), (.mv (.t 26)), none⟩, 6, false, [5], none⟩, ⟨⟨(some 28), (.fadd 8 (.t 1)), (some (27, true))⟩, 7, false, [5], none⟩, ⟨⟨(some 29), (.load false 1 (.t 28)), (some (27, true))⟩, 8, false, [5], none⟩, ⟨⟨(some 30), (.mv (.t 4)), (some (27, true))⟩, 9, false, [5], none⟩, ⟨⟨(some 31), (.iaS 6 (.t 29) (.t 30)), (some (27, true))⟩, 10, false, [5], none⟩, ⟨⟨(some 32), (.fadd 4 (.t 31)), (some (27, true))⟩, 11, false, [5], none⟩, ⟨⟨(some 33), (.load false 1 (.t 32)), (some (27, true))⟩, 12, false, [5], none⟩, ⟨⟨(some 34), (.fadd 4 (.t 2)), (some (27, true))⟩, 13, false, [5], none⟩, ⟨⟨(some 35), (.load false 1 (.t 34)), (some (27, true))⟩, 14, false, [5], none⟩, ⟨⟨(some 36), (.bin .gtr .bad (.t 33) (.t 35)), (some (27, true))⟩, 15, false, [5], none⟩, ⟨⟨(some 37), (.pick (.t 27) (.t 36) (.c (.d (.b false)))), none⟩, 16, false, [5], none⟩, ⟨⟨(some 3), (.mv (.t 37)), none⟩, 17, false, [5], none⟩])
 .ret)
 (.seq (.reg [⟨(some 39), (.mv (.t 5)), none⟩, ⟨(some 40), (.bin .geq .bad (.t 39) (.c (.d (.i .i64 0)))), none⟩, ⟨(some 38), (.mv (.t 40)), none⟩])
 (.cond (.t 38)
 (.seq (.dreg 0 [⟨⟨(some 41), (.fadd 5 (.t 1)), none⟩, 0, false, [], none⟩, ⟨⟨(some 42), (.load false 1 (.t 41)), none⟩, 1, false, [], none⟩, ⟨⟨(some 43), (.mv (.t 5)), none⟩, 2, false, [], none⟩, ⟨⟨(some 44), (.iaS 16 (.t 42) (.t 43)), none⟩, 3, false, [], none⟩, ⟨⟨(some 45), (.fadd 2 (.t 44)), none⟩, 4, false, [], none⟩, ⟨⟨(some 46), (.load false 1 (.t 45)), none⟩, 5, false, [], none⟩, ⟨⟨(some 47), (.bin .eql .bad (.t 46) (.c (.d (.i .u8 1)))), none⟩, 6, false, [], none⟩, ⟨⟨(some 48), (.mv (.t 47)), none⟩, 7, false, [], none⟩, ⟨⟨(some 49), (.fadd 5 (.t 1)), (some (48, true))⟩, 8, false, [], none⟩, ⟨⟨(some 50), (.load false 1 (.t 49)), (some (48, true))⟩, 9, false, [], none⟩, ⟨⟨(some 51), (.mv (.t 5)), (some (48, true))⟩, 10, false, [], none⟩, ⟨⟨(some 52), (.iaS 16 (.t 50) (.t 51)), (some (48, true))⟩, 11, false, [], none⟩, ⟨⟨(some 53), (.fadd 7 (.t 52)), (some (48, true))⟩, 12, false, [], none⟩, ⟨⟨(some 54), (.load false 1 (.t 53)), (some (48, true))⟩, 13, false, [], none⟩, ⟨⟨(some 55), (.fadd 4 (.t 2)), (some (48, true))⟩, 14, false, [], none⟩, ⟨⟨(some 56), (.load false 1 (.t 55)), (some (48, true))⟩, 15, false, [], none⟩, ⟨⟨(some 57), (.bin .gtr .bad (.t 54) (.t 56)), (some (48, true))⟩, 16, false, [], none⟩, ⟨⟨(some 58), (.pick (.t 48) (.t 57) (.c (.d (.b false)))), none⟩, 17, false, [], none⟩, ⟨⟨(some 3), (.mv (.t 58)), none⟩, 18, false, [], none⟩])
 .ret)
 .skip))))))
 (.seq (.reg [⟨(some 3), (.mv (.c (.d (.b false)))), none⟩])
 .ret)))), false⟩
/-- (foreman/check.asked).refs$1 -/
def a236 : AFn := ⟨8, [.tmp 3],
 (.seq (.reg [⟨(some 2), (.box 58 (.t 0)), none⟩, ⟨(some 3), (.mv (.c (.d (.b false)))), none⟩])
 (.seq (.reg [⟨(some 4), (.fadd 0 (.t 2)), none⟩, ⟨(some 5), (.load false 1 (.t 4)), none⟩, ⟨(some 6), (.load false 1 (.t 1)), none⟩, ⟨(some 7), (.bin .eql .bad (.t 5) (.t 6)), none⟩, ⟨(some 3), (.mv (.t 7)), none⟩])
 .ret)), false⟩
/-- foreman/join.done -/
def a238 : AFn := ⟨9, [.tmp 4],
 (.seq (.reg [⟨(some 2), (.box 36 (.t 0)), none⟩, ⟨(some 4), (.mv (.c (.d (.b false)))), none⟩])
 (.seq (.reg [⟨(some 5), (.mv (.t 1)), none⟩, ⟨(some 6), (.mkfn (.func 262) [] [(.t 2)]), none⟩, ⟨(some 7), (.callf 171 [(.t 5), (.t 6)]), none⟩, ⟨(some 8), (.un .not (.t 7)), none⟩, ⟨(some 4), (.mv (.t 8)), none⟩])
 .ret)), false⟩
/-- foreman/join.owned -/
def a239 : AFn := ⟨27, [.tmp 4],
 (.seq (.reg [⟨(some 2), (.box 36 (.t 0)), none⟩, ⟨(some 4), (.mv (.c .nilsl)), none⟩])
 (.seq (.reg [⟨(some 5), (.mv (.c .nilsl)), none⟩])
 (.seq (.seq (.reg [⟨(some 7), (.fadd 6 (.t 2)), none⟩, ⟨(some 8), (.load false 1 (.t 7)), none⟩, ⟨(some 9), (.len 1 (.t 8)), none⟩, ⟨(some 10), (.mv (.c (.d (.i .i64 0)))), none⟩])
 (.blk 0 (.loop (.seq (.reg [⟨(some 11), (.bin .lss .bad (.t 10) (.t 9)), none⟩])
 (.seq (.cond (.t 11)
 .skip
 (.exit 0))
 (.seq (.blk 1 (.seq (.reg [⟨(some 12), (.mv (.t 10)), none⟩, ⟨(some 6), (.mv (.t 12)), none⟩])
 (.seq (.reg [⟨(some 13), (.fadd 6 (.t 2)), none⟩, ⟨(some 14), (.load false 1 (.t 13)), none⟩, ⟨(some 15), (.mv (.t 6)), none⟩, ⟨(some 16), (.iaS 16 (.t 14) (.t 15)), none⟩, ⟨(some 17), (.fadd 4 (.t 16)), none⟩, ⟨(some 18), (.load false 1 (.t 17)), none⟩, ⟨(some 19), (.mv (.t 1)), none⟩, ⟨(some 20), (.bin .eql .bad (.t 18) (.t 19)), none⟩])
 (.cond (.t 20)
 (.reg [⟨(some 21), (.mv (.t 5)), none⟩, ⟨(some 22), (.mv (.t 6)), none⟩, ⟨(some 23), (.bsl 3 1 1 [(.d (.i .i64 0))] [(0, 1, (.t 22))]), none⟩, ⟨(some 24), (.app 3 1 8 false (.t 21) (.t 23)), none⟩, ⟨(some 5), (.mv (.t 24)), none⟩])
 .skip))))
 (.reg [⟨(some 25), (.bin .add .bad (.t 10) (.c (.d (.i .i64 1)))), none⟩, ⟨(some 10), (.mv (.t 25)), none⟩])))))))
 (.seq (.reg [⟨(some 26), (.mv (.t 5)), none⟩, ⟨(some 4), (.mv (.t 26)), none⟩])
 .ret)))), false⟩
/-- internal/stringslite.Index -/
def a243 : AFn := ⟨143, [.tmp 4],
 (.seq (.reg [⟨(some 4), (.mv (.c (.d (.i .i64 0)))), none⟩])
 (.seq (.reg [⟨(some 14), (.mv (.t 1)), none⟩, ⟨(some 15), (.len 0 (.t 14)), none⟩, ⟨(some 5), (.mv (.t 15)), none⟩])
 (.seq (.blk 0 (.seq (.reg [⟨(some 17), (.mv (.t 5)), none⟩, ⟨(some 18), (.bin .eql .bad (.t 17) (.c (.d (.i .i64 0)))), none⟩, ⟨(some 19), (.mv (.t 18)), none⟩, ⟨(some 20), (.mv (.t 1)), (some (19, false))⟩, ⟨(some 21), (.mv (.t 0)), (some (19, false))⟩, ⟨(some 22), (.bin .eql .bad (.t 20) (.t 21)), (some (19, false))⟩, ⟨(some 23), (.pick (.t 19) (.c (.d (.b true))) (.t 22)), none⟩, ⟨(some 16), (.mv (.t 23)), none⟩])
 (.cond (.t 16)
 (.seq (.reg [⟨(some 4), (.mv (.c (.d (.i .i64 0)))), none⟩])
 .ret)
 (.seq (.reg [⟨(some 25), (.mv (.t 5)), none⟩, ⟨(some 26), (.bin .eql .bad (.t 25) (.c (.d (.i .i64 1)))), none⟩, ⟨(some 24), (.mv (.t 26)), none⟩])
 (.cond (.t 24)
 (.seq (.reg [⟨(some 27), (.mv (.t 0)), none⟩, ⟨(some 28), (.mv (.t 1)), none⟩, ⟨(some 29), (.ixS (.t 28) (.c (.d (.i .i64 0)))), none⟩, ⟨(some 30), (.callf 264 [(.t 27), (.t 29)]), none⟩, ⟨(some 4), (.mv (.t 30)), none⟩])
 .ret)
 (.seq (.reg [⟨(some 32), (.mv (.t 5)), none⟩, ⟨(some 33), (.mv (.t 0)), none⟩, ⟨(some 34), (.len 0 (.t 33)), none⟩, ⟨(some 35), (.bin .geq .bad (.t 32) (.t 34)), none⟩, ⟨(some 31), (.mv (.t 35)), none⟩])
 (.cond (.t 31)
 (.seq (.reg [⟨(some 4), (.mv (.c (.d (.i .i64 (-1))))), none⟩])
 .ret)
 (.seq (.reg [⟨(some 37), (.mv (.t 5)), none⟩, ⟨(some 38), (.load false 1 (.c (.glob 3 0))), none⟩, ⟨(some 39), (.bin .leq .bad (.t 37) (.t 38)), none⟩, ⟨(some 40), (.mv (.t 39)), none⟩, ⟨(some 41), (.mv (.t 0)), (some (40, true))⟩, ⟨(some 42), (.len 0 (.t 41)), (some (40, true))⟩, ⟨(some 43), (.bin .leq .bad (.t 42) (.c (.d (.i .i64 64)))), (some (40, true))⟩, ⟨(some 44), (.pick (.t 40) (.t 43) (.c (.d (.b false)))), none⟩, ⟨(some 36), (.mv (.t 44)), none⟩])
 (.cond (.t 36)
 (.seq (.reg [⟨(some 45), (.mv (.t 0)), none⟩, ⟨(some 46), (.mv (.t 1)), none⟩, ⟨(some 47), (.prim 265 .index [(.t 45), (.t 46)]), none⟩, ⟨(some 4), (.mv (.t 47)), none⟩])
 .ret)
 .skip)))))))))
 (.seq (.reg [⟨(some 48), (.mv (.t 1)), none⟩, ⟨(some 49), (.ixS (.t 48) (.c (.d (.i .i64 0)))), none⟩, ⟨(some 6), (.mv (.t 49)), none⟩])
 (.seq (.reg [⟨(some 50), (.mv (.t 1)), none⟩, ⟨(some 51), (.ixS (.t 50) (.c (.d (.i .i64 1)))), none⟩, ⟨(some 7), (.mv (.t 51)), none⟩])
 (.seq (.reg [⟨(some 8), (.mv (.c (.d (.i .i64 0)))), none⟩])
 (.seq (.reg [⟨(some 52), (.mv (.t 0)), none⟩, ⟨(some 53), (.len 0 (.t 52)), none⟩, ⟨(some 54), (.mv (.t 5)), none⟩, ⟨(some 55), (.bin .sub .bad (.t 53) (.t 54)), none⟩, ⟨(some 56), (.bin .add .bad (.t 55) (.c (.d (.i .i64 1)))), none⟩, ⟨(some 9), (.mv (.t 56)), none⟩])
 (.seq (.reg [⟨(some 10), (.mv (.c (.d (.i .i64 0)))), none⟩])
 (.seq (.blk 1 (.loop (.seq (.seq (.reg [⟨(some 57), (.mv (.t 8)), none⟩, ⟨(some 58), (.mv (.t 9)), none⟩, ⟨(some 59), (.bin .lss .bad (.t 57) (.t 58)), none⟩])
 (.cond (.t 59)
 .skip
 (.exit 1)))
 (.blk 2 (.seq (.seq (.reg [⟨(some 60), (.mv (.t 0)), none⟩, ⟨(some 61), (.mv (.t 8)), none⟩, ⟨(some 62), (.ixS (.t 60) (.t 61)), none⟩, ⟨(some 63), (.mv (.t 6)), none⟩, ⟨(some 64), (.bin .neq .bad (.t 62) (.t 63)), none⟩])
 (.cond (.t 64)
 (.seq (.reg [⟨(some 65), (.mv (.t 0)), none⟩, ⟨(some 66), (.mv (.t 8)), none⟩, ⟨(some 67), (.bin .add .bad (.t 66) (.c (.d (.i .i64 1)))), none⟩, ⟨(some 68), (.mv (.t 9)), none⟩, ⟨(some 69), (.slStr (.t 65) (some (.t 67)) (some (.t 68))), none⟩, ⟨(some 70), (.mv (.t 6)), none⟩, ⟨(some 71), (.callf 264 [(.t 69), (.t 70)]), none⟩, ⟨(some 11), (.mv (.t 71)), none⟩])
 (.seq (.seq (.reg [⟨(some 72), (.mv (.t 11)), none⟩, ⟨(some 73), (.bin .lss .bad (.t 72) (.c (.d (.i .i64 0)))), none⟩])
 (.cond (.t 73)
 (.seq (.reg [⟨(some 4), (.mv (.c (.d (.i .i64 (-1))))), none⟩])
 .ret)
 .skip))
 (.reg [⟨(some 74), (.mv (.t 8)), none⟩, ⟨(some 75), (.mv (.t 11)), none⟩, ⟨(some 76), (.bin .add .bad (.t 75) (.c (.d (.i .i64 1)))), none⟩, ⟨(some 77), (.bin .add .bad (.t 74) (.t 76)), none⟩, ⟨(some 8), (.mv (.t 77)), none⟩])))
 .skip))
 (.seq (.seq (.reg [⟨(some 78), (.mv (.t 0)), none⟩, ⟨(some 79), (.mv (.t 8)), none⟩, ⟨(some 80), (.bin .add .bad (.t 79) (.c (.d (.i .i64 1)))), none⟩, ⟨(some 81), (.ixS (.t 78) (.t 80)), none⟩, ⟨(some 82), (.mv (.t 7)), none⟩, ⟨(some 83), (.bin .eql .bad (.t 81) (.t 82)), none⟩, ⟨(some 84), (.mv (.t 83)), none⟩, ⟨(some 85), (.mv (.t 0)), (some (84, true))⟩, ⟨(some 86), (.mv (.t 8)), (some (84, true))⟩, ⟨(some 87), (.mv (.t 8)), (some (84, true))⟩, ⟨(some 88), (.mv (.t 5)), (some (84, true))⟩, ⟨(some 89), (.bin .add .bad (.t 87) (.t 88)), (some (84, true))⟩, ⟨(some 90), (.slStr (.t 85) (some (.t 86)) (some (.t 89))), (some (84, true))⟩, ⟨(some 91), (.mv (.t 1)), (some (84, true))⟩, ⟨(some 92), (.bin .eql .bad (.t 90) (.t 91)), (some (84, true))⟩, ⟨(some 93), (.pick (.t 84) (.t 92) (.c (.d (.b false)))), none⟩])
 (.cond (.t 93)
 (.seq (.reg [⟨(some 94), (.mv (.t 8)), none⟩, ⟨(some 4), (.mv (.t 94)), none⟩])
 .ret)
 .skip))
 (.seq (.reg [⟨(some 95), (.mv (.t 8)), none⟩, ⟨(some 96), (.bin .add .bad (.t 95) (.c (.d (.i .i64 1)))), none⟩, ⟨(some 8), (.mv (.t 96)), none⟩])
 (.seq (.reg [⟨(some 97), (.mv (.t 10)), none⟩, ⟨(some 98), (.bin .add .bad (.t 97) (.c (.d (.i .i64 1)))), none⟩, ⟨(some 10), (.mv (.t 98)), none⟩])
 (.seq (.reg [⟨(some 99), (.mv (.t 5)), none⟩, ⟨(some 100), (.load false 1 (.c (.glob 3 0))), none⟩, ⟨(some 101), (.bin .leq .bad (.t 99) (.t 100)), none⟩, ⟨(some 102), (.mv (.t 101)), none⟩, ⟨(some 103), (.mv (.t 10)), (some (102, true))⟩, ⟨(some 104), (.mv (.t 8)), (some (102, true))⟩, ⟨(some 105), (.callf 266 [(.t 104)]), (some (102, true))⟩, ⟨(some 106), (.bin .gtr .bad (.t 103) (.t 105)), (some (102, true))⟩, ⟨(some 107), (.pick (.t 102) (.t 106) (.c (.d (.b false)))), none⟩])
 (.cond (.t 107)
 (.seq (.reg [⟨(some 108), (.mv (.t 0)), none⟩, ⟨(some 109), (.mv (.t 8)), none⟩, ⟨(some 110), (.slStr (.t 108) (some (.t 109)) none), none⟩, ⟨(some 111), (.mv (.t 1)), none⟩, ⟨(some 112), (.prim 265 .index [(.t 110), (.t 111)]), none⟩, ⟨(some 12), (.mv (.t 112)), none⟩])
 (.seq (.seq (.reg [⟨(some 113), (.mv (.t 12)), none⟩, ⟨(some 114), (.bin .geq .bad (.t 113) (.c (.d (.i .i64 0)))), none⟩])
 (.cond (.t 114)
 (.seq (.reg [⟨(some 115), (.mv (.t 12)), none⟩, ⟨(some 116), (.mv (.t 8)), none⟩, ⟨(some 117), (.bin .add .bad (.t 115) (.t 116)), none⟩, ⟨(some 4), (.mv (.t 117)), none⟩])
 .ret)
 .skip))
 (.seq (.reg [⟨(some 4), (.mv (.c (.d (.i .i64 (-1))))), none⟩])
 .ret)))
 (.seq (.reg [⟨(some 118), (.mv (.t 5)), none⟩, ⟨(some 119), (.load false 1 (.c (.glob 3 0))), none⟩, ⟨(some 120), (.bin .gtr .bad (.t 118) (.t 119)), none⟩, ⟨(some 121), (.mv (.t 120)), none⟩, ⟨(some 122), (.mv (.t 10)), (some (121, true))⟩, ⟨(some 123), (.mv (.t 8)), (some (121, true))⟩, ⟨(some 124), (.bin .shr .bad (.t 123) (.c (.d (.i .u64 4)))), (some (121, true))⟩, ⟨(some 125), (.bin .add .bad (.c (.d (.i .i64 4))) (.t 124)), (some (121, true))⟩, ⟨(some 126), (.bin .geq .bad (.t 122) (.t 125)), (some (121, true))⟩, ⟨(some 127), (.pick (.t 121) (.t 126) (.c (.d (.b false)))), none⟩, ⟨(some 128), (.mv (.t 127)), none⟩, ⟨(some 129), (.mv (.t 8)), (some (128, true))⟩, ⟨(some 130), (.mv (.t 9)), (some (128, true))⟩, ⟨(some 131), (.bin .lss .bad (.t 129) (.t 130)), (some (128, true))⟩, ⟨(some 132), (.pick (.t 128) (.t 131) (.c (.d (.b false)))), none⟩])
 (.cond (.t 132)
 (.seq (.reg [⟨(some 133), (.mv (.t 0)), none⟩, ⟨(some 134), (.mv (.t 8)), none⟩, ⟨(some 135), (.slStr (.t 133) (some (.t 134)) none), none⟩, ⟨(some 136), (.mv (.t 1)), none⟩, ⟨(some 137), (.callf 267 [(.t 135), (.t 136)]), none⟩, ⟨(some 13), (.mv (.t 137)), none⟩])
 (.seq (.seq (.reg [⟨(some 138), (.mv (.t 13)), none⟩, ⟨(some 139), (.bin .lss .bad (.t 138) (.c (.d (.i .i64 0)))), none⟩])
 (.cond (.t 139)
 (.seq (.reg [⟨(some 4), (.mv (.c (.d (.i .i64 (-1))))), none⟩])
 .ret)
 .skip))
 (.seq (.reg [⟨(some 140), (.mv (.t 8)), none⟩, ⟨(some 141), (.mv (.t 13)), none⟩, ⟨(some 142), (.bin .add .bad (.t 140) (.t 141)), none⟩, ⟨(some 4), (.mv (.t 142)), none⟩])
 .ret)))
 .skip))))))))))))
 (.seq (.reg [⟨(some 4), (.mv (.c (.d (.i .i64 (-1))))), none⟩])
 .ret)))))))))), false⟩
/-- internal/strconv.FormatInt -/
def a249 : AFn := ⟨54, [.tmp 4],
 (.seq (.reg [⟨(some 4), (.mv (.c (.d (.s [])))), none⟩])
 (.seq (.seq (.reg [⟨(some 10), (.mv (.t 1)), none⟩, ⟨(some 11), (.bin .eql .bad (.t 10) (.c (.d (.i .i64 10)))), none⟩])
 (.cond (.t 11)
 (.seq (.seq (.reg [⟨(some 12), (.mv (.t 0)), none⟩, ⟨(some 13), (.bin .leq .bad (.c (.d (.i .i64 0))) (.t 12)), none⟩, ⟨(some 14), (.mv (.t 13)), none⟩, ⟨(some 15), (.mv (.t 0)), (some (14, true))⟩, ⟨(some 16), (.bin .lss .bad (.t 15) (.c (.d (.i .i64 100)))), (some (14, true))⟩, ⟨(some 17), (.pick (.t 14) (.t 16) (.c (.d (.b false)))), none⟩])
 (.cond (.t 17)
 (.seq (.reg [⟨(some 18), (.mv (.t 0)), none⟩, ⟨(some 19), (.callf 271 [(.t 18)]), none⟩, ⟨(some 4), (.mv (.t 19)), none⟩])
 .ret)
 .skip))
 (.seq (.reg [⟨(some 5), (.alloc 316 [(.d (.i .u8 0)), (.d (.i .u8 0)), (.d (.i .u8 0)), (.d (.i .u8 0)), (.d (.i .u8 0)), (.d (.i .u8 0)), (.d (.i .u8 0)), (.d (.i .u8 0)), (.d (.i .u8 0)), (.d (.i .u8 0)), (.d (.i .u8 0)), (.d (.i .u8 0)), (.d (.i .u8 0)), (.d (.i .u8 0)), (.d (.i .u8 0)), (.d (.i .u8 0)), (.d (.i .u8 0)), (.d (.i .u8 0)), (.d (.i .u8 0)), (.d (.i .u8 0)), (.d (.i .u8 0)), (.d (.i .u8 0)), (.d (.i .u8 0)), (.d (.i .u8 0))]), none⟩])
 (.seq (.reg [⟨(some 20), (.mv (.t 0)), none⟩, ⟨(some 21), (.cvi .u64 (.t 20)), none⟩, ⟨(some 6), (.mv (.t 21)), none⟩])
 (.seq (.seq (.reg [⟨(some 22), (.mv (.t 0)), none⟩, ⟨(some 23), (.bin .lss .bad (.t 22) (.c (.d (.i .i64 0)))), none⟩])
 (.cond (.t 23)
 (.reg [⟨(some 24), (.mv (.t 6)), none⟩, ⟨(some 25), (.un .neg (.t 24)), none⟩, ⟨(some 6), (.mv (.t 25)), none⟩])
 .skip))
 (.seq (.reg [⟨(some 26), (.mv (.t 6)), none⟩, ⟨(some 27), (.callf 272 [(.t 26)]), none⟩, ⟨(some 7), (.mv (.t 27)), none⟩])
 (.seq (.reg [⟨(some 28), (.mv (.t 7)), none⟩, ⟨(some 29), (.bin .add .bad (.c (.d (.i .i64 1))) (.t 28)), none⟩, ⟨(some 30), (.slArr 24 1 (.t 5) (some (.c (.d (.i .i64 1)))) (some (.t 29)) none), none⟩, ⟨(some 31), (.mv (.t 6)), none⟩, ⟨(some 32), (.callf 273 [(.t 30), (.t 31)]), none⟩])
 (.seq (.seq (.reg [⟨(some 33), (.mv (.t 0)), none⟩, ⟨(some 34), (.bin .lss .bad (.t 33) (.c (.d (.i .i64 0)))), none⟩])
 (.cond (.t 34)
 (.seq (.reg [⟨(some 35), (.iaA 24 1 (.t 5) (.c (.d (.i .i64 0)))), none⟩, ⟨none, (.store 1 (.t 35) (.c (.d (.i .u8 45)))), none⟩])
 (.seq (.reg [⟨(some 36), (.mv (.t 7)), none⟩, ⟨(some 37), (.bin .add .bad (.c (.d (.i .i64 1))) (.t 36)), none⟩, ⟨(some 38), (.slArr 24 1 (.t 5) none (some (.t 37)) none), none⟩, ⟨(some 39), (.b2s (.t 38)), none⟩, ⟨(some 4), (.mv (.t 39)), none⟩])
 .ret))
 .skip))
 (.seq (.reg [⟨(some 40), (.mv (.t 7)), none⟩, ⟨(some 41), (.bin .add .bad (.c (.d (.i .i64 1))) (.t 40)), none⟩, ⟨(some 42), (.slArr 24 1 (.t 5) (some (.c (.d (.i .i64 1)))) (some (.t 41)) none), none⟩, ⟨(some 43), (.b2s (.t 42)), none⟩, ⟨(some 4), (.mv (.t 43)), none⟩])
 .ret))))))))
 .skip))
 (.seq (.reg [⟨(some 45), (.mv (.t 0)), none⟩, ⟨(some 46), (.cvi .u64 (.t 45)), none⟩, ⟨(some 47), (.mv (.t 1)), none⟩, ⟨(some 48), (.mv (.t 0)), none⟩, ⟨(some 49), (.bin .lss .bad (.t 48) (.c (.d (.i .i64 0)))), none⟩, ⟨(some 50), (.callf 274 [(.c .nilsl), (.t 46), (.t 47), (.t 49), (.c (.d (.b false)))]), none⟩, ⟨(some 44), (.mv (.t 50)), none⟩, ⟨(some 51), (.extr (.t 44) 0), none⟩, ⟨(some 52), (.extr (.t 44) 1), none⟩, ⟨(some 8), (.mv (.t 51)), none⟩, ⟨(some 9), (.mv (.t 52)), none⟩])
 (.seq (.reg [⟨(some 53), (.mv (.t 9)), none⟩, ⟨(some 4), (.mv (.t 53)), none⟩])
 .ret)))), false⟩
/-- foreman/ident.Right$1 -/
def a251 : AFn := ⟨18, [.tmp 2],
 (.seq (.reg [⟨(some 1), (.box 147 (.t 0)), none⟩, ⟨(some 2), (.mv (.c (.d (.b false)))), none⟩])
 (.seq (.reg [⟨(some 3), (.fadd 0 (.t 1)), none⟩, ⟨(some 4), (.load false 1 (.t 3)), none⟩, ⟨(some 5), (.callf 136 [(.t 4)]), none⟩, ⟨(some 6), (.un .not (.t 5)), none⟩, ⟨(some 7), (.mv (.t 6)), none⟩, ⟨(some 8), (.fadd 1 (.t 1)), (some (7, false))⟩, ⟨(some 9), (.load false 1 (.t 8)), (some (7, false))⟩, ⟨(some 10), (.bin .neq .bad (.t 9) (.c (.d (.i .i64 (-1))))), (some (7, false))⟩, ⟨(some 11), (.mv (.t 10)), (some (7, false))⟩, ⟨(some 12), (.fadd 1 (.t 1)), (some (11, true))⟩, ⟨(some 13), (.load false 1 (.t 12)), (some (11, true))⟩, ⟨(some 14), (.callf 159 [(.t 13)]), (some (11, true))⟩, ⟨(some 15), (.un .not (.t 14)), (some (11, true))⟩, ⟨(some 16), (.pick (.t 11) (.t 15) (.c (.d (.b false)))), (some (7, false))⟩, ⟨(some 17), (.pick (.t 7) (.c (.d (.b true))) (.t 16)), none⟩, ⟨(some 2), (.mv (.t 17)), none⟩])
 .ret)), false⟩
/-- slices.ContainsFunc[[]foreman/api.Step,foreman/api.Step] -/
def a252 : AFn := ⟨9, [.tmp 4],
 (.seq (.reg [⟨(some 4), (.mv (.c (.d (.b false)))), none⟩])
 (.seq (.reg [⟨(some 5), (.mv (.t 0)), none⟩, ⟨(some 6), (.mv (.t 1)), none⟩, ⟨(some 7), (.callf 275 [(.t 5), (.t 6)]), none⟩, ⟨(some 8), (.bin .geq .bad (.t 7) (.c (.d (.i .i64 0)))), none⟩, ⟨(some 4), (.mv (.t 8)), none⟩])
 .ret)), false⟩
/-- (*strings.Builder).copyCheck -/
def a253 : AFn := ⟨20, [],
 (.seq (.reg [⟨(some 2), (.mv (.t 0)), none⟩, ⟨(some 3), (.nilchk (.t 2)), none⟩, ⟨(some 4), (.fadd 0 (.t 3)), none⟩, ⟨(some 5), (.load false 1 (.t 4)), none⟩, ⟨(some 6), (.bin .eql .ptr (.t 5) (.c (.d .nilp))), none⟩])
 (.cond (.t 6)
 (.reg [⟨(some 7), (.mv (.t 0)), none⟩, ⟨(some 8), (.mv (.t 0)), none⟩, ⟨(some 9), (.cvP none (.t 8)), none⟩, ⟨(some 10), (.prim 276 .noEscape [(.t 9)]), none⟩, ⟨(some 11), (.cvP (some (263, 2)) (.t 10)), none⟩, ⟨(some 12), (.nilchk (.t 7)), none⟩, ⟨(some 13), (.fadd 0 (.t 12)), none⟩, ⟨none, (.store 1 (.t 13) (.t 11)), none⟩])
 (.seq (.reg [⟨(some 14), (.mv (.t 0)), none⟩, ⟨(some 15), (.nilchk (.t 14)), none⟩, ⟨(some 16), (.fadd 0 (.t 15)), none⟩, ⟨(some 17), (.load false 1 (.t 16)), none⟩, ⟨(some 18), (.mv (.t 0)), none⟩, ⟨(some 19), (.bin .neq .ptr (.t 17) (.t 18)), none⟩])
 (.cond (.t 19)
 .bad
 .skip)))), false⟩
/-- (*foreman/graph.Graph).Put -/
def a255 : AFn := ⟨69, [.tmp 6, .tmp 7],
 (.seq (.reg [⟨(some 6), (.mv (.c (.d (.b false)))), none⟩, ⟨(some 7), (.mv (.c (.d (.i .i64 0)))), none⟩])
 (.seq (.blk 0 (.seq (.reg [⟨(some 10), (.mv (.t 0)), none⟩, ⟨(some 11), (.callf 98 [(.t 10)]), none⟩, ⟨(some 9), (.mv (.t 11)), none⟩])
 (.cond (.t 9)
 (.seq (.reg [⟨(some 6), (.mv (.c (.d (.b false)))), none⟩, ⟨(some 7), (.mv (.c (.d (.i .i64 1)))), none⟩])
 .ret)
 (.seq (.reg [⟨(some 13), (.mv (.t 0)), none⟩, ⟨(some 14), (.mv (.t 1)), none⟩, ⟨(some 15), (.callf 286 [(.t 13), (.t 14)]), none⟩, ⟨(some 16), (.un .not (.t 15)), none⟩, ⟨(some 17), (.mv (.t 16)), none⟩, ⟨(some 18), (.mv (.t 0)), (some (17, false))⟩, ⟨(some 19), (.mv (.t 2)), (some (17, false))⟩, ⟨(some 20), (.callf 286 [(.t 18), (.t 19)]), (some (17, false))⟩, ⟨(some 21), (.un .not (.t 20)), (some (17, false))⟩, ⟨(some 22), (.pick (.t 17) (.c (.d (.b true))) (.t 21)), none⟩, ⟨(some 23), (.mv (.t 22)), none⟩, ⟨(some 24), (.mv (.t 1)), (some (23, false))⟩, ⟨(some 25), (.mv (.t 2)), (some (23, false))⟩, ⟨(some 26), (.bin .eql .bad (.t 24) (.t 25)), (some (23, false))⟩, ⟨(some 27), (.pick (.t 23) (.c (.d (.b true))) (.t 26)), none⟩, ⟨(some 12), (.mv (.t 27)), none⟩])
 (.cond (.t 12)
 (.seq (.reg [⟨(some 6), (.mv (.c (.d (.b false)))), none⟩, ⟨(some 7), (.mv (.c (.d (.i .i64 2)))), none⟩])
 .ret)
 .skip)))))
 (.seq (.reg [⟨(some 8), (.mv (.c (.d (.b false)))), none⟩])
 (.seq (.dreg 0 [⟨⟨(some 34), (.mv (.t 0)), none⟩, 5, false, [], none⟩, ⟨⟨(some 35), (.nilchk (.t 34)), none⟩, 6, false, [], none⟩, ⟨⟨(some 36), (.fadd 1 (.t 35)), none⟩, 7, false, [], none⟩, ⟨⟨(some 37), (.load false 1 (.t 36)), none⟩, 8, false, [], none⟩, ⟨⟨(some 38), (.mv (.t 1)), none⟩, 9, false, [], none⟩, ⟨⟨(some 39), (.iaS 2 (.t 37) (.t 38)), none⟩, 10, false, [], none⟩, ⟨⟨(some 40), (.fadd 0 (.t 39)), none⟩, 11, false, [], none⟩, ⟨⟨(some 41), (.load false 1 (.t 40)), none⟩, 12, false, [], none⟩, ⟨⟨(some 42), (.mv (.t 2)), none⟩, 13, false, [], none⟩, ⟨⟨(some 43), (.callf 287 [(.t 41), (.t 42)]), none⟩, 14, true, [], none⟩, ⟨⟨(some 29), (.mv (.t 0)), none⟩, 0, false, [], none⟩, ⟨⟨(some 30), (.nilchk (.t 29)), none⟩, 1, false, [], none⟩, ⟨⟨(some 31), (.fadd 1 (.t 30)), none⟩, 2, false, [], none⟩, ⟨⟨(some 32), (.load false 1 (.t 31)), none⟩, 3, false, [], none⟩, ⟨⟨(some 33), (.mv (.t 1)), none⟩, 4, false, [], none⟩, ⟨⟨(some 28), (.mv (.t 43)), none⟩, 15, false, [14], none⟩, ⟨⟨(some 44), (.extr (.t 28) 0), none⟩, 16, false, [14], none⟩, ⟨⟨(some 46), (.iaS 2 (.t 32) (.t 33)), none⟩, 18, false, [14], none⟩, ⟨⟨(some 47), (.fadd 0 (.t 46)), none⟩, 19, false, [14], none⟩, ⟨⟨none, (.store 1 (.t 47) (.t 44)), none⟩, 20, true, [], none⟩, ⟨⟨(some 45), (.extr (.t 28) 1), none⟩, 17, false, [14], none⟩, ⟨⟨(some 8), (.mv (.t 45)), none⟩, 21, false, [20, 14], none⟩])
 (.seq (.dreg 0 [⟨⟨(some 54), (.mv (.t 0)), none⟩, 5, false, [], none⟩, ⟨⟨(some 55), (.nilchk (.t 54)), none⟩, 6, false, [], none⟩, ⟨⟨(some 56), (.fadd 1 (.t 55)), none⟩, 7, false, [], none⟩, ⟨⟨(some 57), (.load false 1 (.t 56)), none⟩, 8, false, [], none⟩, ⟨⟨(some 58), (.mv (.t 2)), none⟩, 9, false, [], none⟩, ⟨⟨(some 59), (.iaS 2 (.t 57) (.t 58)), none⟩, 10, false, [], none⟩, ⟨⟨(some 60), (.fadd 1 (.t 59)), none⟩, 11, false, [], none⟩, ⟨⟨(some 61), (.load false 1 (.t 60)), none⟩, 12, false, [], none⟩, ⟨⟨(some 62), (.mv (.t 1)), none⟩, 13, false, [], none⟩, ⟨⟨(some 63), (.callf 287 [(.t 61), (.t 62)]), none⟩, 14, true, [], none⟩, ⟨⟨(some 49), (.mv (.t 0)), none⟩, 0, false, [], none⟩, ⟨⟨(some 50), (.nilchk (.t 49)), none⟩, 1, false, [], none⟩, ⟨⟨(some 51), (.fadd 1 (.t 50)), none⟩, 2, false, [], none⟩, ⟨⟨(some 52), (.load false 1 (.t 51)), none⟩, 3, false, [], none⟩, ⟨⟨(some 53), (.mv (.t 2)), none⟩, 4, false, [], none⟩, ⟨⟨(some 48), (.mv (.t 63)), none⟩, 15, false, [14], none⟩, ⟨⟨(some 64), (.extr (.t 48) 0), none⟩, 16, false, [14], none⟩, ⟨⟨(some 66), (.iaS 2 (.t 52) (.t 53)), none⟩, 18, false, [14], none⟩, ⟨⟨(some 67), (.fadd 1 (.t 66)), none⟩, 19, false, [14], none⟩, ⟨⟨none, (.store 1 (.t 67) (.t 64)), none⟩, 20, true, [], none⟩, ⟨⟨(some 65), (.extr (.t 48) 1), none⟩, 17, false, [14], none⟩])
 (.seq (.reg [⟨(some 68), (.mv (.t 8)), none⟩, ⟨(some 6), (.mv (.t 68)), none⟩, ⟨(some 7), (.mv (.c (.d (.i .i64 0)))), none⟩])
 .ret)))))), false⟩
/-- (*strings.asciiSet).contains -/
def a256 : AFn := ⟨10, [.tmp 4],
 (.seq (.reg [⟨(some 4), (.mv (.c (.d (.b false)))), none⟩])
 (.seq (.reg [⟨(some 5), (.mv (.t 0)), none⟩, ⟨(some 6), (.mv (.t 1)), none⟩, ⟨(some 7), (.nilchk (.t 5)), none⟩, ⟨(some 8), (.iaA 256 1 (.t 7) (.t 6)), none⟩, ⟨(some 9), (.load false 1 (.t 8)), none⟩, ⟨(some 4), (.mv (.t 9)), none⟩])
 .ret)), false⟩
/-- foreman/join.done$1 -/
def a262 : AFn := ⟨11, [.tmp 3],
 (.seq (.reg [⟨(some 3), (.mv (.c (.d (.b false)))), none⟩])
 (.seq (.reg [⟨(some 4), (.fadd 6 (.t 1)), none⟩, ⟨(some 5), (.load false 1 (.t 4)), none⟩, ⟨(some 6), (.mv (.t 0)), none⟩, ⟨(some 7), (.iaS 16 (.t 5) (.t 6)), none⟩, ⟨(some 8), (.fadd 9 (.t 7)), none⟩, ⟨(some 9), (.load false 1 (.t 8)), none⟩, ⟨(some 10), (.bin .neq .bad (.t 9) (.c (.d (.i .u8 4)))), none⟩, ⟨(some 3), (.mv (.t 10)), none⟩])
 .ret)), false⟩
/-- internal/stringslite.IndexByte -/
def a264 : AFn := ⟨8, [.tmp 4],
 (.seq (.reg [⟨(some 4), (.mv (.c (.d (.i .i64 0)))), none⟩])
 (.seq (.reg [⟨(some 5), (.mv (.t 0)), none⟩, ⟨(some 6), (.mv (.t 1)), none⟩, ⟨(some 7), (.prim 291 .indexByte [(.t 5), (.t 6)]), none⟩, ⟨(some 4), (.mv (.t 7)), none⟩])
 .ret)), false⟩
/-- internal/strconv.small -/
def a271 : AFn := ⟨15, [.tmp 2],
 (.seq (.reg [⟨(some 2), (.mv (.c (.d (.s [])))), none⟩])
 (.seq (.seq (.reg [⟨(some 3), (.mv (.t 0)), none⟩, ⟨(some 4), (.bin .lss .bad (.t 3) (.c (.d (.i .i64 10)))), none⟩])
 (.cond (.t 4)
 (.seq (.reg [⟨(some 5), (.mv (.t 0)), none⟩, ⟨(some 6), (.mv (.t 0)), none⟩, ⟨(some 7), (.bin .add .bad (.t 6) (.c (.d (.i .i64 1)))), none⟩, ⟨(some 8), (.slStr (.c (.d (.s [48, 49, 50, 51, 52, 53, 54, 55, 56, 57, 97, 98, 99, 100, 101, 102, 103, 104, 105, 106, 107, 108, 109, 110, 111, 112, 113, 114, 115, 116, 117, 118, 119, 120, 121, 122]))) (some (.t 5)) (some (.t 7))), none⟩, ⟨(some 2), (.mv (.t 8)), none⟩])
 .ret)
 .skip))
 (.seq (.reg [⟨(some 9), (.mv (.t 0)), none⟩, ⟨(some 10), (.bin .mul .bad (.t 9) (.c (.d (.i .i64 2)))), none⟩, ⟨(some 11), (.mv (.t 0)), none⟩, ⟨(some 12), (.bin .mul .bad (.t 11) (.c (.d (.i .i64 2)))), none⟩, ⟨(some 13), (.bin .add .bad (.t 12) (.c (.d (.i .i64 2)))), none⟩, ⟨(some 14), (.slStr (.c (.d (.s [48, 48, 48, 49, 48, 50, 48, 51, 48, 52, 48, 53, 48, 54, 48, 55, 48, 56, 48, 57, 49, 48, 49, 49, 49, 50, 49, 51, 49, 52, 49, 53, 49, 54, 49, 55, 49, 56, 49, 57, 50, 48, 50, 49, 50, 50, 50, 51, 50, 52, 50, 53, 50, 54, 50, 55, 50, 56, 50, 57, 51, 48, 51, 49, 51, 50, 51, 51, 51, 52, 51, 53, 51, 54, 51, 55, 51, 56, 51, 57, 52, 48, 52, 49, 52, 50, 52, 51, 52, 52, 52, 53, 52, 54, 52, 55, 52, 56, 52, 57, 53, 48, 53, 49, 53, 50, 53, 51, 53, 52, 53, 53, 53, 54, 53, 55, 53, 56, 53, 57, 54, 48, 54, 49, 54, 50, 54, 51, 54, 52, 54, 53, 54, 54, 54, 55, 54, 56, 54, 57, 55, 48, 55, 49, 55, 50, 55, 51, 55, 52, 55, 53, 55, 54, 55, 55, 55, 56, 55, 57, 56, 48, 56, 49, 56, 50, 56, 51, 56, 52, 56, 53, 56, 54, 56, 55, 56, 56, 56, 57, 57, 48, 57, 49, 57, 50, 57, 51, 57, 52, 57, 53, 57, 54, 57, 55, 57, 56, 57, 57]))) (some (.t 10)) (some (.t 13))), none⟩, ⟨(some 2), (.mv (.t 14)), none⟩])
 .ret))), false⟩
/-- slices.IndexFunc[[]foreman/api.Step,foreman/api.Step] -/
def a275 : AFn := ⟨19, [.tmp 4],
 (.seq (.reg [⟨(some 4), (.mv (.c (.d (.i .i64 0)))), none⟩])
 (.seq (.seq (.reg [⟨(some 6), (.mv (.t 0)), none⟩, ⟨(some 7), (.len 1 (.t 6)), none⟩, ⟨(some 8), (.mv (.c (.d (.i .i64 0)))), none⟩])
 (.blk 0 (.loop (.seq (.reg [⟨(some 9), (.bin .lss .bad (.t 8) (.t 7)), none⟩])
 (.seq (.cond (.t 9)
 .skip
 (.exit 0))
 (.seq (.blk 1 (.seq (.reg [⟨(some 10), (.mv (.t 8)), none⟩, ⟨(some 5), (.mv (.t 10)), none⟩])
 (.seq (.reg [⟨(some 11), (.mv (.t 1)), none⟩, ⟨(some 12), (.mv (.t 0)), none⟩, ⟨(some 13), (.mv (.t 5)), none⟩, ⟨(some 14), (.iaS 2 (.t 12) (.t 13)), none⟩, ⟨(some 15), (.load true 2 (.t 14)), none⟩, ⟨(some 16), (.callv (.t 11) [(.t 15)]), none⟩])
 (.cond (.t 16)
 (.seq (.reg [⟨(some 17), (.mv (.t 5)), none⟩, ⟨(some 4), (.mv (.t 17)), none⟩])
 .ret)
 .skip))))
 (.reg [⟨(some 18), (.bin .add .bad (.t 8) (.c (.d (.i .i64 1)))), none⟩, ⟨(some 8), (.mv (.t 18)), none⟩])))))))
 (.seq (.reg [⟨(some 4), (.mv (.c (.d (.i .i64 (-1))))), none⟩])
 .ret))), false⟩
/-- slices.BinarySearch[[]int,int] -/
def a280 : AFn := ⟨54, [.tmp 4, .tmp 5],
 (.seq (.reg [⟨(some 4), (.mv (.c (.d (.i .i64 0)))), none⟩, ⟨(some 5), (.mv (.c (.d (.b false)))), none⟩])
 (.seq (.reg [⟨(some 10), (.mv (.t 0)), none⟩, ⟨(some 11), (.len 1 (.t 10)), none⟩, ⟨(some 6), (.mv (.t 11)), none⟩])
 (.seq (.reg [⟨(some 12), (.mv (.t 6)), none⟩, ⟨(some 7), (.mv (.c (.d (.i .i64 0)))), none⟩, ⟨(some 8), (.mv (.t 12)), none⟩])
 (.seq (.blk 0 (.loop (.seq (.seq (.reg [⟨(some 13), (.mv (.t 7)), none⟩, ⟨(some 14), (.mv (.t 8)), none⟩, ⟨(some 15), (.bin .lss .bad (.t 13) (.t 14)), none⟩])
 (.cond (.t 15)
 .skip
 (.exit 0)))
 (.blk 1 (.seq (.reg [⟨(some 16), (.mv (.t 7)), none⟩, ⟨(some 17), (.mv (.t 8)), none⟩, ⟨(some 18), (.bin .add .bad (.t 16) (.t 17)), none⟩, ⟨(some 19), (.cvi .u64 (.t 18)), none⟩, ⟨(some 20), (.bin .shr .bad (.t 19) (.c (.d (.i .u64 1)))), none⟩, ⟨(some 21), (.cvi .i64 (.t 20)), none⟩, ⟨(some 9), (.mv (.t 21)), none⟩])
 (.seq (.reg [⟨(some 22), (.mv (.t 0)), none⟩, ⟨(some 23), (.mv (.t 9)), none⟩, ⟨(some 24), (.iaS 1 (.t 22) (.t 23)), none⟩, ⟨(some 25), (.load false 1 (.t 24)), none⟩, ⟨(some 26), (.mv (.t 1)), none⟩, ⟨(some 27), (.callf 302 [(.t 25), (.t 26)]), none⟩])
 (.cond (.t 27)
 (.reg [⟨(some 28), (.mv (.t 9)), none⟩, ⟨(some 29), (.bin .add .bad (.t 28) (.c (.d (.i .i64 1)))), none⟩, ⟨(some 7), (.mv (.t 29)), none⟩])
 (.reg [⟨(some 30), (.mv (.t 9)), none⟩, ⟨(some 8), (.mv (.t 30)), none⟩]))))))))
 (.seq (.reg [⟨(some 31), (.mv (.t 7)), none⟩, ⟨(some 32), (.mv (.t 7)), none⟩, ⟨(some 33), (.mv (.t 6)), none⟩, ⟨(some 34), (.bin .lss .bad (.t 32) (.t 33)), none⟩, ⟨(some 35), (.mv (.t 34)), none⟩, ⟨(some 36), (.mv (.t 0)), (some (35, true))⟩, ⟨(some 37), (.mv (.t 7)), (some (35, true))⟩, ⟨(some 38), (.iaS 1 (.t 36) (.t 37)), (some (35, true))⟩, ⟨(some 39), (.load false 1 (.t 38)), (some (35, true))⟩, ⟨(some 40), (.mv (.t 1)), (some (35, true))⟩, ⟨(some 41), (.bin .eql .bad (.t 39) (.t 40)), (some (35, true))⟩, ⟨(some 42), (.mv (.t 41)), (some (35, true))⟩, ⟨(some 43), (.mv (.t 0)), (some (42, false))⟩, ⟨(some 44), (.mv (.t 7)), (some (42, false))⟩, ⟨(some 45), (.iaS 1 (.t 43) (.t 44)), (some (42, false))⟩, ⟨(some 46), (.load false 1 (.t 45)), (some (42, false))⟩, ⟨(some 47), (.callf 303 [(.t 46)]), (some (42, false))⟩, ⟨(some 48), (.mv (.t 47)), (some (42, false))⟩, ⟨(some 49), (.mv (.t 1)), (some (48, true))⟩, ⟨(some 50), (.callf 303 [(.t 49)]), (some (48, true))⟩, ⟨(some 51), (.pick (.t 48) (.t 50) (.c (.d (.b false)))), (some (42, false))⟩, ⟨(some 52), (.pick (.t 42) (.c (.d (.b true))) (.t 51)), (some (35, true))⟩, ⟨(some 53), (.pick (.t 35) (.t 52) (.c (.d (.b false)))), none⟩, ⟨(some 4), (.mv (.t 31)), none⟩, ⟨(some 5), (.mv (.t 53)), none⟩])
 .ret))))), false⟩
/-- (*foreman/graph.Graph).is -/
def a286 : AFn := ⟨13, [.tmp 4],
 (.seq (.reg [⟨(some 4), (.mv (.c (.d (.b false)))), none⟩])
 (.seq (.reg [⟨(some 5), (.mv (.t 1)), none⟩, ⟨(some 6), (.bin .geq .bad (.t 5) (.c (.d (.i .i64 0)))), none⟩, ⟨(some 7), (.mv (.t 6)), none⟩, ⟨(some 8), (.mv (.t 1)), (some (7, true))⟩, ⟨(some 9), (.mv (.t 0)), (some (7, true))⟩, ⟨(some 10), (.callf 178 [(.t 9)]), (some (7, true))⟩, ⟨(some 11), (.bin .lss .bad (.t 8) (.t 10)), (some (7, true))⟩, ⟨(some 12), (.pick (.t 7) (.t 11) (.c (.d (.b false)))), none⟩, ⟨(some 4), (.mv (.t 12)), none⟩])
 .ret)), false⟩
/-- foreman/graph.put -/
def a287 : AFn := ⟨21, [.tmp 4, .tmp 5],
 (.seq (.reg [⟨(some 4), (.mv (.c .nilsl)), none⟩, ⟨(some 5), (.mv (.c (.d (.b false)))), none⟩])
 (.seq (.reg [⟨(some 9), (.mv (.t 0)), none⟩, ⟨(some 10), (.mv (.t 1)), none⟩, ⟨(some 11), (.callf 280 [(.t 9), (.t 10)]), none⟩, ⟨(some 8), (.mv (.t 11)), none⟩, ⟨(some 12), (.extr (.t 8) 0), none⟩, ⟨(some 13), (.extr (.t 8) 1), none⟩, ⟨(some 6), (.mv (.t 12)), none⟩, ⟨(some 7), (.mv (.t 13)), none⟩])
 (.seq (.seq (.reg [⟨(some 14), (.mv (.t 7)), none⟩])
 (.cond (.t 14)
 (.seq (.reg [⟨(some 15), (.mv (.t 0)), none⟩, ⟨(some 4), (.mv (.t 15)), none⟩, ⟨(some 5), (.mv (.c (.d (.b false)))), none⟩])
 .ret)
 .skip))
 (.seq (.reg [⟨(some 16), (.mv (.t 0)), none⟩, ⟨(some 17), (.mv (.t 6)), none⟩, ⟨(some 18), (.mv (.t 1)), none⟩, ⟨(some 19), (.bsl 3 1 1 [(.d (.i .i64 0))] [(0, 1, (.t 18))]), none⟩, ⟨(some 20), (.insrt 307 3 (.t 16) (.t 17) (.t 19)), none⟩, ⟨(some 4), (.mv (.t 20)), none⟩, ⟨(some 5), (.mv (.c (.d (.b true)))), none⟩])
 .ret)))), true⟩
end Go.Proofs.YtmaeffhiephpfaaGreatDoor
