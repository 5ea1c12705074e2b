/- The program's functions as the abstract machine's code: what it is compiled to, by program; that it is the compiler's is shown in the text on the environment. -/
import Derived.Test.YtmaeffhiephpfaaGreatDoorZA
namespace Go.Proofs.YtmaeffhiephpfaaGreatDoor
open Go Go.Abs
/-- foreman/foremanlaw23.StepNone -/
def a3 : AFn := ⟨71, [.tmp 2],
 (.seq (.reg [⟨(some 1), (.box 27 (.t 0)), none⟩, ⟨(some 2), (.mv (.c (.d (.b false)))), none⟩])
 (.seq (.seq (.reg [⟨(some 9), (.load true 9 (.t 1)), none⟩, ⟨(some 10), (.bsl 27 9 1 [(.d (.i .u8 0)), (.d (.s [])), (.d (.i .i64 0)), (.d (.i .u8 0)), (.d (.i .i64 0)), (.d (.s [])), .nilsl, .nilsl, (.d (.i .i64 0))] [(0, 9, (.t 9))]), none⟩, ⟨(some 11), (.callf 4 [(.t 10), (.c (.d (.i .i64 1)))]), none⟩, ⟨(some 12), (.un .not (.t 11)), none⟩])
 (.cond (.t 12)
 (.seq (.reg [⟨(some 13), (.callf 5 []), none⟩, ⟨(some 2), (.mv (.t 13)), none⟩])
 .ret)
 .skip))
 (.seq (.seq (.reg [⟨(some 14), (.build [(.d (.i .i64 0)), (.d (.i .i64 0)), (.d (.i .i64 0)), (.d (.i .i64 0)), (.d (.i .i64 0)), (.d (.i .i64 0)), .nilsl, (.d (.i .i64 0)), (.d .nilp)] []), none⟩, ⟨(some 15), (.box 39 (.t 14)), none⟩, ⟨(some 16), (.bsl 31 1 2 [(.d .nilp)] [(0, 1, (.c (.d .nilp))), (1, 1, (.t 15))]), none⟩, ⟨(some 17), (.len 1 (.t 16)), none⟩, ⟨(some 18), (.mv (.c (.d (.i .i64 0)))), none⟩])
 (.blk 0 (.loop (.seq (.reg [⟨(some 19), (.bin .lss .bad (.t 18) (.t 17)), none⟩])
 (.seq (.cond (.t 19)
 .skip
 (.exit 0))
 (.seq (.blk 1 (.seq (.reg [⟨(some 20), (.iaS 1 (.t 16) (.t 18)), none⟩, ⟨(some 21), (.load false 1 (.t 20)), none⟩, ⟨(some 4), (.mv (.t 21)), none⟩])
 (.seq (.reg [⟨(some 22), (.mv (.t 4)), none⟩, ⟨(some 23), (.load true 9 (.t 1)), none⟩, ⟨(some 24), (.callf 7 [(.t 22), (.t 23)]), none⟩, ⟨(some 25), (.build [(.d (.i .i64 0)), (.d (.i .i64 0)), (.d (.i .i64 0)), .nilsl, (.d (.i .u8 0))] [(0, 1, (.c (.d (.i .i64 1))))]), none⟩, ⟨(some 26), (.callf 6 [(.t 24), (.t 25)]), none⟩, ⟨(some 27), (.un .not (.t 26)), none⟩, ⟨(some 28), (.mv (.t 27)), none⟩, ⟨(some 29), (.mv (.t 4)), (some (28, false))⟩, ⟨(some 30), (.callf 8 [(.t 29)]), (some (28, false))⟩, ⟨(some 31), (.bin .neq .bad (.t 30) (.c (.d (.i .i64 0)))), (some (28, false))⟩, ⟨(some 32), (.pick (.t 28) (.c (.d (.b true))) (.t 31)), none⟩, ⟨(some 33), (.mv (.t 32)), none⟩, ⟨(some 34), (.mv (.t 4)), (some (33, false))⟩, ⟨(some 35), (.callf 9 [(.t 34)]), (some (33, false))⟩, ⟨(some 36), (.fld 6 false 1 (.t 35)), (some (33, false))⟩, ⟨(some 37), (.len 1 (.t 36)), (some (33, false))⟩, ⟨(some 38), (.bin .neq .bad (.t 37) (.c (.d (.i .i64 0)))), (some (33, false))⟩, ⟨(some 39), (.pick (.t 33) (.c (.d (.b true))) (.t 38)), none⟩, ⟨(some 40), (.mv (.t 39)), none⟩, ⟨(some 41), (.mv (.t 4)), (some (40, false))⟩, ⟨(some 42), (.callf 10 [(.t 41)]), (some (40, false))⟩, ⟨(some 43), (.len 1 (.t 42)), (some (40, false))⟩, ⟨(some 44), (.bin .neq .bad (.t 43) (.c (.d (.i .i64 0)))), (some (40, false))⟩, ⟨(some 45), (.pick (.t 40) (.c (.d (.b true))) (.t 44)), none⟩, ⟨(some 46), (.mv (.t 45)), none⟩, ⟨(some 47), (.mv (.t 4)), (some (46, false))⟩, ⟨(some 48), (.callf 11 [(.t 47)]), (some (46, false))⟩, ⟨(some 49), (.bin .neq .ptr (.t 48) (.c (.d .nilp))), (some (46, false))⟩, ⟨(some 50), (.pick (.t 46) (.c (.d (.b true))) (.t 49)), none⟩])
 (.cond (.t 50)
 (.seq (.reg [⟨(some 2), (.mv (.c (.d (.b false)))), none⟩])
 .ret)
 .skip))))
 (.reg [⟨(some 51), (.bin .add .bad (.t 18) (.c (.d (.i .i64 1)))), none⟩, ⟨(some 18), (.mv (.t 51)), none⟩])))))))
 (.seq (.reg [⟨(some 53), (.build [(.d (.i .i64 0)), (.d (.i .i64 0)), (.d (.i .i64 0)), (.d (.i .i64 0)), (.d (.i .i64 0))] [(1, 1, (.c (.d (.i .i64 (-1)))))]), none⟩, ⟨(some 54), (.callf 12 [(.t 53)]), none⟩, ⟨(some 52), (.mv (.t 54)), none⟩, ⟨(some 55), (.extr (.t 52) 0), none⟩, ⟨(some 56), (.extr (.t 52) 1), none⟩, ⟨(some 5), (.mv (.t 55)), none⟩, ⟨(some 6), (.mv (.t 56)), none⟩])
 (.seq (.reg [⟨(some 58), (.build [(.d (.i .i64 0)), (.d (.i .i64 0)), (.d (.i .i64 0)), (.d (.i .i64 0)), (.d (.i .i64 0)), (.d (.i .i64 0)), .nilsl, (.d (.i .i64 0))] [(7, 1, (.c (.d (.i .i64 (-1)))))]), none⟩, ⟨(some 59), (.callf 13 [(.t 58)]), none⟩, ⟨(some 57), (.mv (.t 59)), none⟩, ⟨(some 60), (.extr (.t 57) 0), none⟩, ⟨(some 61), (.extr (.t 57) 1), none⟩, ⟨(some 7), (.mv (.t 60)), none⟩, ⟨(some 8), (.mv (.t 61)), none⟩])
 (.seq (.reg [⟨(some 62), (.mv (.t 6)), none⟩, ⟨(some 63), (.bin .eql .bad (.t 62) (.c (.d (.i .i64 2)))), none⟩, ⟨(some 64), (.mv (.t 63)), none⟩, ⟨(some 65), (.mv (.t 8)), (some (64, true))⟩, ⟨(some 66), (.bin .eql .bad (.t 65) (.c (.d (.i .i64 2)))), (some (64, true))⟩, ⟨(some 67), (.pick (.t 64) (.t 66) (.c (.d (.b false)))), none⟩, ⟨(some 68), (.mv (.t 67)), none⟩, ⟨(some 69), (.callf 5 []), (some (68, true))⟩, ⟨(some 70), (.pick (.t 68) (.t 69) (.c (.d (.b false)))), none⟩, ⟨(some 2), (.mv (.t 70)), none⟩])
 .ret)))))), false⟩
/-- foreman/foremanlow.FewOps -/
def a4 : AFn := ⟨60, [.tmp 4],
 (.seq (.reg [⟨(some 4), (.mv (.c (.d (.b false)))), none⟩])
 (.seq (.seq (.reg [⟨(some 9), (.mv (.t 0)), none⟩, ⟨(some 10), (.len 1 (.t 9)), none⟩, ⟨(some 11), (.mv (.c (.d (.i .i64 0)))), none⟩])
 (.blk 0 (.loop (.seq (.reg [⟨(some 12), (.bin .lss .bad (.t 11) (.t 10)), none⟩])
 (.seq (.cond (.t 12)
 .skip
 (.exit 0))
 (.seq (.blk 1 (.seq (.reg [⟨(some 13), (.iaS 9 (.t 9) (.t 11)), none⟩, ⟨(some 14), (.load true 9 (.t 13)), none⟩, ⟨(some 6), (.alloc 27 [(.d (.i .u8 0)), (.d (.s [])), (.d (.i .i64 0)), (.d (.i .u8 0)), (.d (.i .i64 0)), (.d (.s [])), .nilsl, .nilsl, (.d (.i .i64 0))]), none⟩, ⟨none, (.store 9 (.t 6) (.t 14)), none⟩])
 (.seq (.seq (.reg [⟨(some 15), (.fadd 7 (.t 6)), none⟩, ⟨(some 16), (.load false 1 (.t 15)), none⟩, ⟨(some 17), (.len 1 (.t 16)), none⟩, ⟨(some 18), (.bin .gtr .bad (.t 17) (.c (.d (.i .i64 45)))), none⟩, ⟨(some 19), (.mv (.t 18)), none⟩, ⟨(some 20), (.fadd 1 (.t 6)), (some (19, false))⟩, ⟨(some 21), (.load false 1 (.t 20)), (some (19, false))⟩, ⟨(some 22), (.len 0 (.t 21)), (some (19, false))⟩, ⟨(some 23), (.bin .gtr .bad (.t 22) (.c (.d (.i .i64 1000)))), (some (19, false))⟩, ⟨(some 24), (.pick (.t 19) (.c (.d (.b true))) (.t 23)), none⟩, ⟨(some 25), (.mv (.t 24)), none⟩, ⟨(some 26), (.fadd 3 (.t 6)), (some (25, false))⟩, ⟨(some 27), (.load true 4 (.t 26)), (some (25, false))⟩, ⟨(some 28), (.callf 14 [(.t 27)]), (some (25, false))⟩, ⟨(some 29), (.un .not (.t 28)), (some (25, false))⟩, ⟨(some 30), (.pick (.t 25) (.c (.d (.b true))) (.t 29)), none⟩])
 (.cond (.t 30)
 (.seq (.reg [⟨(some 4), (.mv (.c (.d (.b false)))), none⟩])
 .ret)
 .skip))
 (.seq (.reg [⟨(some 31), (.fadd 7 (.t 6)), none⟩, ⟨(some 32), (.load false 1 (.t 31)), none⟩, ⟨(some 33), (.len 1 (.t 32)), none⟩, ⟨(some 34), (.mv (.c (.d (.i .i64 0)))), none⟩])
 (.blk 2 (.loop (.seq (.reg [⟨(some 35), (.bin .lss .bad (.t 34) (.t 33)), none⟩])
 (.seq (.cond (.t 35)
 .skip
 (.exit 2))
 (.seq (.blk 3 (.seq (.reg [⟨(some 36), (.iaS 6 (.t 32) (.t 34)), none⟩, ⟨(some 37), (.load true 6 (.t 36)), none⟩, ⟨(some 8), (.alloc 58 [(.d (.s [])), (.d (.i .u8 0)), .nilsl, (.d (.s [])), (.d (.i .i64 0)), (.d (.i .i64 0))]), none⟩, ⟨none, (.store 6 (.t 8) (.t 37)), none⟩])
 (.seq (.reg [⟨(some 38), (.fadd 2 (.t 8)), none⟩, ⟨(some 39), (.load false 1 (.t 38)), none⟩, ⟨(some 40), (.len 1 (.t 39)), none⟩, ⟨(some 41), (.bin .gtr .bad (.t 40) (.c (.d (.i .i64 25)))), none⟩, ⟨(some 42), (.mv (.t 41)), none⟩, ⟨(some 43), (.fadd 0 (.t 8)), (some (42, false))⟩, ⟨(some 44), (.load false 1 (.t 43)), (some (42, false))⟩, ⟨(some 45), (.len 0 (.t 44)), (some (42, false))⟩, ⟨(some 46), (.bin .gtr .bad (.t 45) (.c (.d (.i .i64 100)))), (some (42, false))⟩, ⟨(some 47), (.pick (.t 42) (.c (.d (.b true))) (.t 46)), none⟩, ⟨(some 48), (.mv (.t 47)), none⟩, ⟨(some 49), (.fadd 3 (.t 8)), (some (48, false))⟩, ⟨(some 50), (.load false 1 (.t 49)), (some (48, false))⟩, ⟨(some 51), (.len 0 (.t 50)), (some (48, false))⟩, ⟨(some 52), (.bin .gtr .bad (.t 51) (.c (.d (.i .i64 100)))), (some (48, false))⟩, ⟨(some 53), (.pick (.t 48) (.c (.d (.b true))) (.t 52)), none⟩])
 (.cond (.t 53)
 (.seq (.reg [⟨(some 4), (.mv (.c (.d (.b false)))), none⟩])
 .ret)
 .skip))))
 (.reg [⟨(some 54), (.bin .add .bad (.t 34) (.c (.d (.i .i64 1)))), none⟩, ⟨(some 34), (.mv (.t 54)), none⟩]))))))))))
 (.reg [⟨(some 55), (.bin .add .bad (.t 11) (.c (.d (.i .i64 1)))), none⟩, ⟨(some 11), (.mv (.t 55)), none⟩])))))))
 (.seq (.reg [⟨(some 56), (.mv (.t 0)), none⟩, ⟨(some 57), (.len 1 (.t 56)), none⟩, ⟨(some 58), (.mv (.t 1)), none⟩, ⟨(some 59), (.bin .leq .bad (.t 57) (.t 58)), none⟩, ⟨(some 4), (.mv (.t 59)), none⟩])
 .ret))), false⟩
/-- foreman/foremanlaw23.awake -/
def a5 : AFn := ⟨96, [.tmp 0],
 (.seq (.reg [⟨(some 0), (.mv (.c (.d (.b false)))), none⟩])
 (.seq (.reg [⟨(some 8), (.callf 15 []), none⟩, ⟨(some 9), (.callf 12 [(.t 8)]), none⟩, ⟨(some 7), (.mv (.t 9)), none⟩, ⟨(some 10), (.extr (.t 7) 0), none⟩, ⟨(some 11), (.extr (.t 7) 1), none⟩, ⟨(some 1), (.mv (.t 10)), none⟩, ⟨(some 2), (.mv (.t 11)), none⟩])
 (.seq (.seq (.reg [⟨(some 12), (.mv (.t 2)), none⟩, ⟨(some 13), (.bin .neq .bad (.t 12) (.c (.d (.i .i64 0)))), none⟩])
 (.cond (.t 13)
 (.seq (.reg [⟨(some 0), (.mv (.c (.d (.b false)))), none⟩])
 .ret)
 .skip))
 (.seq (.reg [⟨(some 14), (.build [(.d (.i .u8 0)), (.d (.i .i64 0)), (.d (.s [])), .nilsl] [(1, 1, (.c (.d (.i .i64 7))))]), none⟩, ⟨(some 3), (.alloc 24 [(.d (.i .u8 0)), (.d (.i .i64 0)), (.d (.s [])), .nilsl]), none⟩, ⟨none, (.store 4 (.t 3) (.t 14)), none⟩])
 (.seq (.seq (.reg [⟨(some 15), (.build [(.d (.s [])), (.d (.i .u8 0)), .nilsl, (.d (.s [])), (.d (.i .i64 0)), (.d (.i .i64 0))] [(0, 1, (.c (.d (.s [97]))))]), none⟩, ⟨(some 16), (.bsl 9 1 1 [(.d (.s []))] [(0, 1, (.c (.d (.s [97]))))]), none⟩, ⟨(some 17), (.build [(.d (.s [])), (.d (.i .u8 0)), .nilsl, (.d (.s [])), (.d (.i .i64 0)), (.d (.i .i64 0))] [(0, 1, (.c (.d (.s [98])))), (2, 1, (.t 16))]), none⟩, ⟨(some 18), (.bsl 58 6 2 [(.d (.s [])), (.d (.i .u8 0)), .nilsl, (.d (.s [])), (.d (.i .i64 0)), (.d (.i .i64 0))] [(0, 6, (.t 15)), (6, 6, (.t 17))]), none⟩, ⟨(some 19), (.build [(.d (.i .u8 0)), (.d (.s [])), (.d (.i .i64 0)), (.d (.i .u8 0)), (.d (.i .i64 0)), (.d (.s [])), .nilsl, .nilsl, (.d (.i .i64 0))] [(0, 1, (.c (.d (.i .u8 1)))), (7, 1, (.t 18)), (8, 1, (.c (.d (.i .i64 5))))]), none⟩, ⟨(some 20), (.build [(.d (.i .i64 0)), (.d (.i .i64 0)), (.d (.i .i64 0)), .nilsl, (.d (.i .u8 0))] [(4, 1, (.c (.d (.i .u8 2))))]), none⟩, ⟨(some 21), (.build [(.d (.i .u8 0)), (.d (.s [])), (.d (.i .i64 0)), (.d (.i .u8 0)), (.d (.i .i64 0)), (.d (.s [])), .nilsl, .nilsl, (.d (.i .i64 0)), (.d (.i .i64 0)), (.d (.i .i64 0)), (.d (.i .i64 0)), .nilsl, (.d (.i .u8 0))] [(0, 9, (.t 19)), (9, 5, (.t 20))]), none⟩, ⟨(some 22), (.build [(.d (.i .u8 0)), (.d (.s [])), (.d (.i .i64 0)), (.d (.i .u8 0)), (.d (.i .i64 0)), (.d (.s [])), .nilsl, .nilsl, (.d (.i .i64 0))] [(0, 1, (.c (.d (.i .u8 2)))), (1, 1, (.c (.d (.s [48, 47, 98]))))]), none⟩, ⟨(some 23), (.build [(.d (.i .i64 0)), (.d (.i .i64 0)), (.d (.i .i64 0)), .nilsl, (.d (.i .u8 0))] [(0, 1, (.c (.d (.i .i64 11))))]), none⟩, ⟨(some 24), (.build [(.d (.i .u8 0)), (.d (.s [])), (.d (.i .i64 0)), (.d (.i .u8 0)), (.d (.i .i64 0)), (.d (.s [])), .nilsl, .nilsl, (.d (.i .i64 0)), (.d (.i .i64 0)), (.d (.i .i64 0)), (.d (.i .i64 0)), .nilsl, (.d (.i .u8 0))] [(0, 9, (.t 22)), (9, 5, (.t 23))]), none⟩, ⟨(some 25), (.build [(.d (.i .u8 0)), (.d (.s [])), (.d (.i .i64 0)), (.d (.i .u8 0)), (.d (.i .i64 0)), (.d (.s [])), .nilsl, .nilsl, (.d (.i .i64 0))] [(0, 1, (.c (.d (.i .u8 2)))), (1, 1, (.c (.d (.s [48, 47, 97]))))]), none⟩, ⟨(some 26), (.build [(.d (.i .i64 0)), (.d (.i .i64 0)), (.d (.i .i64 0)), .nilsl, (.d (.i .u8 0))] [(2, 1, (.c (.d (.i .i64 1)))), (4, 1, (.c (.d (.i .u8 2))))]), none⟩, ⟨(some 27), (.build [(.d (.i .u8 0)), (.d (.s [])), (.d (.i .i64 0)), (.d (.i .u8 0)), (.d (.i .i64 0)), (.d (.s [])), .nilsl, .nilsl, (.d (.i .i64 0)), (.d (.i .i64 0)), (.d (.i .i64 0)), (.d (.i .i64 0)), .nilsl, (.d (.i .u8 0))] [(0, 9, (.t 25)), (9, 5, (.t 26))]), none⟩, ⟨(some 28), (.build [(.d (.i .u8 0)), (.d (.s [])), (.d (.i .i64 0)), (.d (.i .u8 0)), (.d (.i .i64 0)), (.d (.s [])), .nilsl, .nilsl, (.d (.i .i64 0))] [(0, 1, (.c (.d (.i .u8 3)))), (1, 1, (.c (.d (.s [48, 47, 97])))), (2, 1, (.c (.d (.i .i64 2))))]), none⟩, ⟨(some 29), (.build [(.d (.i .i64 0)), (.d (.i .i64 0)), (.d (.i .i64 0)), .nilsl, (.d (.i .u8 0))] [(0, 1, (.c (.d (.i .i64 12)))), (4, 1, (.c (.d (.i .u8 2))))]), none⟩, ⟨(some 30), (.build [(.d (.i .u8 0)), (.d (.s [])), (.d (.i .i64 0)), (.d (.i .u8 0)), (.d (.i .i64 0)), (.d (.s [])), .nilsl, .nilsl, (.d (.i .i64 0)), (.d (.i .i64 0)), (.d (.i .i64 0)), (.d (.i .i64 0)), .nilsl, (.d (.i .u8 0))] [(0, 9, (.t 28)), (9, 5, (.t 29))]), none⟩, ⟨(some 31), (.load true 4 (.t 3)), none⟩, ⟨(some 32), (.build [(.d (.i .u8 0)), (.d (.s [])), (.d (.i .i64 0)), (.d (.i .u8 0)), (.d (.i .i64 0)), (.d (.s [])), .nilsl, .nilsl, (.d (.i .i64 0))] [(0, 1, (.c (.d (.i .u8 3)))), (1, 1, (.c (.d (.s [48, 47, 97])))), (2, 1, (.c (.d (.i .i64 1)))), (3, 4, (.t 31))]), none⟩, ⟨(some 33), (.build [(.d (.i .i64 0)), (.d (.i .i64 0)), (.d (.i .i64 0)), .nilsl, (.d (.i .u8 0))] [(4, 1, (.c (.d (.i .u8 4))))]), none⟩, ⟨(some 34), (.build [(.d (.i .u8 0)), (.d (.s [])), (.d (.i .i64 0)), (.d (.i .u8 0)), (.d (.i .i64 0)), (.d (.s [])), .nilsl, .nilsl, (.d (.i .i64 0)), (.d (.i .i64 0)), (.d (.i .i64 0)), (.d (.i .i64 0)), .nilsl, (.d (.i .u8 0))] [(0, 9, (.t 32)), (9, 5, (.t 33))]), none⟩, ⟨(some 35), (.build [(.d (.i .u8 0)), (.d (.s [])), (.d (.i .i64 0)), (.d (.i .u8 0)), (.d (.i .i64 0)), (.d (.s [])), .nilsl, .nilsl, (.d (.i .i64 0))] [(0, 1, (.c (.d (.i .u8 2)))), (1, 1, (.c (.d (.s [48, 47, 98]))))]), none⟩, ⟨(some 36), (.load true 4 (.t 3)), none⟩, ⟨(some 37), (.bsl 24 4 1 [(.d (.i .u8 0)), (.d (.i .i64 0)), (.d (.s [])), .nilsl] [(0, 4, (.t 36))]), none⟩, ⟨(some 38), (.build [(.d (.i .i64 0)), (.d (.i .i64 0)), (.d (.i .i64 0)), .nilsl, (.d (.i .u8 0))] [(2, 1, (.c (.d (.i .i64 2)))), (4, 1, (.c (.d (.i .u8 2)))), (3, 1, (.t 37))]), none⟩, ⟨(some 39), (.build [(.d (.i .u8 0)), (.d (.s [])), (.d (.i .i64 0)), (.d (.i .u8 0)), (.d (.i .i64 0)), (.d (.s [])), .nilsl, .nilsl, (.d (.i .i64 0)), (.d (.i .i64 0)), (.d (.i .i64 0)), (.d (.i .i64 0)), .nilsl, (.d (.i .u8 0))] [(0, 9, (.t 35)), (9, 5, (.t 38))]), none⟩, ⟨(some 40), (.build [(.d (.i .u8 0)), (.d (.s [])), (.d (.i .i64 0)), (.d (.i .u8 0)), (.d (.i .i64 0)), (.d (.s [])), .nilsl, .nilsl, (.d (.i .i64 0))] [(0, 1, (.c (.d (.i .u8 4)))), (1, 1, (.c (.d (.s [48, 47, 98])))), (2, 1, (.c (.d (.i .i64 2))))]), none⟩, ⟨(some 41), (.build [(.d (.i .i64 0)), (.d (.i .i64 0)), (.d (.i .i64 0)), .nilsl, (.d (.i .u8 0))] [(4, 1, (.c (.d (.i .u8 1))))]), none⟩, ⟨(some 42), (.build [(.d (.i .u8 0)), (.d (.s [])), (.d (.i .i64 0)), (.d (.i .u8 0)), (.d (.i .i64 0)), (.d (.s [])), .nilsl, .nilsl, (.d (.i .i64 0)), (.d (.i .i64 0)), (.d (.i .i64 0)), (.d (.i .i64 0)), .nilsl, (.d (.i .u8 0))] [(0, 9, (.t 40)), (9, 5, (.t 41))]), none⟩, ⟨(some 43), (.build [(.d (.i .u8 0)), (.d (.s [])), (.d (.i .i64 0)), (.d (.i .u8 0)), (.d (.i .i64 0)), (.d (.s [])), .nilsl, .nilsl, (.d (.i .i64 0))] [(0, 1, (.c (.d (.i .u8 2)))), (1, 1, (.c (.d (.s [48, 47, 98]))))]), none⟩, ⟨(some 44), (.load true 4 (.t 3)), none⟩, ⟨(some 45), (.bsl 24 4 1 [(.d (.i .u8 0)), (.d (.i .i64 0)), (.d (.s [])), .nilsl] [(0, 4, (.t 44))]), none⟩, ⟨(some 46), (.build [(.d (.i .i64 0)), (.d (.i .i64 0)), (.d (.i .i64 0)), .nilsl, (.d (.i .u8 0))] [(2, 1, (.c (.d (.i .i64 3)))), (4, 1, (.c (.d (.i .u8 2)))), (3, 1, (.t 45))]), none⟩, ⟨(some 47), (.build [(.d (.i .u8 0)), (.d (.s [])), (.d (.i .i64 0)), (.d (.i .u8 0)), (.d (.i .i64 0)), (.d (.s [])), .nilsl, .nilsl, (.d (.i .i64 0)), (.d (.i .i64 0)), (.d (.i .i64 0)), (.d (.i .i64 0)), .nilsl, (.d (.i .u8 0))] [(0, 9, (.t 43)), (9, 5, (.t 46))]), none⟩, ⟨(some 48), (.build [(.d (.i .u8 0)), (.d (.s [])), (.d (.i .i64 0)), (.d (.i .u8 0)), (.d (.i .i64 0)), (.d (.s [])), .nilsl, .nilsl, (.d (.i .i64 0))] [(0, 1, (.c (.d (.i .u8 4)))), (1, 1, (.c (.d (.s [48, 47, 98])))), (2, 1, (.c (.d (.i .i64 3))))]), none⟩, ⟨(some 49), (.build [(.d (.i .i64 0)), (.d (.i .i64 0)), (.d (.i .i64 0)), .nilsl, (.d (.i .u8 0))] [(4, 1, (.c (.d (.i .u8 5))))]), none⟩, ⟨(some 50), (.build [(.d (.i .u8 0)), (.d (.s [])), (.d (.i .i64 0)), (.d (.i .u8 0)), (.d (.i .i64 0)), (.d (.s [])), .nilsl, .nilsl, (.d (.i .i64 0)), (.d (.i .i64 0)), (.d (.i .i64 0)), (.d (.i .i64 0)), .nilsl, (.d (.i .u8 0))] [(0, 9, (.t 48)), (9, 5, (.t 49))]), none⟩, ⟨(some 51), (.bsl 60 14 9 [(.d (.i .u8 0)), (.d (.s [])), (.d (.i .i64 0)), (.d (.i .u8 0)), (.d (.i .i64 0)), (.d (.s [])), .nilsl, .nilsl, (.d (.i .i64 0)), (.d (.i .i64 0)), (.d (.i .i64 0)), (.d (.i .i64 0)), .nilsl, (.d (.i .u8 0))] [(0, 14, (.t 21)), (14, 14, (.t 24)), (28, 14, (.t 27)), (42, 14, (.t 30)), (56, 14, (.t 34)), (70, 14, (.t 39)), (84, 14, (.t 42)), (98, 14, (.t 47)), (112, 14, (.t 50))]), none⟩, ⟨(some 52), (.len 1 (.t 51)), none⟩, ⟨(some 53), (.mv (.c (.d (.i .i64 0)))), none⟩])
 (.blk 0 (.loop (.seq (.reg [⟨(some 54), (.bin .lss .bad (.t 53) (.t 52)), none⟩])
 (.seq (.cond (.t 54)
 .skip
 (.exit 0))
 (.seq (.blk 1 (.seq (.reg [⟨(some 55), (.iaS 14 (.t 51) (.t 53)), none⟩, ⟨(some 56), (.load true 14 (.t 55)), none⟩, ⟨(some 5), (.alloc 60 [(.d (.i .u8 0)), (.d (.s [])), (.d (.i .i64 0)), (.d (.i .u8 0)), (.d (.i .i64 0)), (.d (.s [])), .nilsl, .nilsl, (.d (.i .i64 0)), (.d (.i .i64 0)), (.d (.i .i64 0)), (.d (.i .i64 0)), .nilsl, (.d (.i .u8 0))]), none⟩, ⟨none, (.store 14 (.t 5) (.t 56)), none⟩])
 (.seq (.reg [⟨(some 57), (.mv (.t 1)), none⟩, ⟨(some 58), (.fadd 0 (.t 5)), none⟩, ⟨(some 59), (.load true 9 (.t 58)), none⟩, ⟨(some 60), (.fadd 9 (.t 5)), none⟩, ⟨(some 61), (.load true 5 (.t 60)), none⟩, ⟨(some 62), (.callf 16 [(.t 57), (.t 59), (.t 61)]), none⟩, ⟨(some 63), (.un .not (.t 62)), none⟩])
 (.cond (.t 63)
 (.seq (.reg [⟨(some 0), (.mv (.c (.d (.b false)))), none⟩])
 .ret)
 .skip))))
 (.reg [⟨(some 64), (.bin .add .bad (.t 53) (.c (.d (.i .i64 1)))), none⟩, ⟨(some 53), (.mv (.t 64)), none⟩])))))))
 (.seq (.reg [⟨(some 65), (.mv (.t 1)), none⟩, ⟨(some 66), (.callf 9 [(.t 65)]), none⟩, ⟨(some 6), (.alloc 36 [(.d (.i .i64 0)), (.d (.i .i64 0)), (.d (.i .i64 0)), (.d (.i .i64 0)), (.d (.i .i64 0)), (.d (.i .i64 0)), .nilsl, (.d (.i .i64 0))]), none⟩, ⟨none, (.store 8 (.t 6) (.t 66)), none⟩])
 (.seq (.reg [⟨(some 67), (.fadd 6 (.t 6)), none⟩, ⟨(some 68), (.load false 1 (.t 67)), none⟩, ⟨(some 69), (.len 1 (.t 68)), none⟩, ⟨(some 70), (.bin .eql .bad (.t 69) (.c (.d (.i .i64 2)))), none⟩, ⟨(some 71), (.mv (.t 70)), none⟩, ⟨(some 72), (.fadd 6 (.t 6)), (some (71, true))⟩, ⟨(some 73), (.load false 1 (.t 72)), (some (71, true))⟩, ⟨(some 74), (.iaS 16 (.t 73) (.c (.d (.i .i64 1)))), (some (71, true))⟩, ⟨(some 75), (.fadd 9 (.t 74)), (some (71, true))⟩, ⟨(some 76), (.load false 1 (.t 75)), (some (71, true))⟩, ⟨(some 77), (.bin .eql .bad (.t 76) (.c (.d (.i .u8 5)))), (some (71, true))⟩, ⟨(some 78), (.pick (.t 71) (.t 77) (.c (.d (.b false)))), none⟩, ⟨(some 79), (.mv (.t 78)), none⟩, ⟨(some 80), (.fadd 6 (.t 6)), (some (79, true))⟩, ⟨(some 81), (.load false 1 (.t 80)), (some (79, true))⟩, ⟨(some 82), (.iaS 16 (.t 81) (.c (.d (.i .i64 0)))), (some (79, true))⟩, ⟨(some 83), (.fadd 9 (.t 82)), (some (79, true))⟩, ⟨(some 84), (.load false 1 (.t 83)), (some (79, true))⟩, ⟨(some 85), (.bin .eql .bad (.t 84) (.c (.d (.i .u8 4)))), (some (79, true))⟩, ⟨(some 86), (.pick (.t 79) (.t 85) (.c (.d (.b false)))), none⟩, ⟨(some 87), (.mv (.t 86)), none⟩, ⟨(some 88), (.build [(.d (.i .u8 0)), (.d (.s [])), (.d (.i .i64 0)), (.d (.i .u8 0)), (.d (.i .i64 0)), (.d (.s [])), .nilsl, .nilsl, (.d (.i .i64 0))] [(0, 1, (.c (.d (.i .u8 3))))]), (some (87, true))⟩, ⟨(some 89), (.callf 17 [(.t 88), (.c (.d (.i .i64 25)))]), (some (87, true))⟩, ⟨(some 90), (.pick (.t 87) (.t 89) (.c (.d (.b false)))), none⟩, ⟨(some 91), (.mv (.t 90)), none⟩, ⟨(some 92), (.build [(.d (.i .u8 0)), (.d (.s [])), (.d (.i .i64 0)), (.d (.i .u8 0)), (.d (.i .i64 0)), (.d (.s [])), .nilsl, .nilsl, (.d (.i .i64 0))] [(0, 1, (.c (.d (.i .u8 1))))]), (some (91, true))⟩, ⟨(some 93), (.callf 17 [(.t 92), (.c (.d (.i .i64 25)))]), (some (91, true))⟩, ⟨(some 94), (.un .not (.t 93)), (some (91, true))⟩, ⟨(some 95), (.pick (.t 91) (.t 94) (.c (.d (.b false)))), none⟩, ⟨(some 0), (.mv (.t 95)), none⟩])
 .ret))))))), false⟩
/-- foreman/foremanlow.SameReply -/
def a6 : AFn := ⟨60, [.tmp 4],
 (.seq (.reg [⟨(some 2), (.box 44 (.t 0)), none⟩, ⟨(some 3), (.box 44 (.t 1)), none⟩, ⟨(some 4), (.mv (.c (.d (.b false)))), none⟩])
 (.seq (.seq (.reg [⟨(some 6), (.fadd 0 (.t 2)), none⟩, ⟨(some 7), (.load false 1 (.t 6)), none⟩, ⟨(some 8), (.fadd 0 (.t 3)), none⟩, ⟨(some 9), (.load false 1 (.t 8)), none⟩, ⟨(some 10), (.bin .neq .bad (.t 7) (.t 9)), none⟩, ⟨(some 11), (.mv (.t 10)), none⟩, ⟨(some 12), (.fadd 1 (.t 2)), (some (11, false))⟩, ⟨(some 13), (.load false 1 (.t 12)), (some (11, false))⟩, ⟨(some 14), (.fadd 1 (.t 3)), (some (11, false))⟩, ⟨(some 15), (.load false 1 (.t 14)), (some (11, false))⟩, ⟨(some 16), (.bin .neq .bad (.t 13) (.t 15)), (some (11, false))⟩, ⟨(some 17), (.pick (.t 11) (.c (.d (.b true))) (.t 16)), none⟩, ⟨(some 18), (.mv (.t 17)), none⟩, ⟨(some 19), (.fadd 2 (.t 2)), (some (18, false))⟩, ⟨(some 20), (.load false 1 (.t 19)), (some (18, false))⟩, ⟨(some 21), (.fadd 2 (.t 3)), (some (18, false))⟩, ⟨(some 22), (.load false 1 (.t 21)), (some (18, false))⟩, ⟨(some 23), (.bin .neq .bad (.t 20) (.t 22)), (some (18, false))⟩, ⟨(some 24), (.pick (.t 18) (.c (.d (.b true))) (.t 23)), none⟩, ⟨(some 25), (.mv (.t 24)), none⟩, ⟨(some 26), (.fadd 4 (.t 2)), (some (25, false))⟩, ⟨(some 27), (.load false 1 (.t 26)), (some (25, false))⟩, ⟨(some 28), (.fadd 4 (.t 3)), (some (25, false))⟩, ⟨(some 29), (.load false 1 (.t 28)), (some (25, false))⟩, ⟨(some 30), (.bin .neq .bad (.t 27) (.t 29)), (some (25, false))⟩, ⟨(some 31), (.pick (.t 25) (.c (.d (.b true))) (.t 30)), none⟩, ⟨(some 32), (.mv (.t 31)), none⟩, ⟨(some 33), (.fadd 3 (.t 2)), (some (32, false))⟩, ⟨(some 34), (.load false 1 (.t 33)), (some (32, false))⟩, ⟨(some 35), (.len 1 (.t 34)), (some (32, false))⟩, ⟨(some 36), (.fadd 3 (.t 3)), (some (32, false))⟩, ⟨(some 37), (.load false 1 (.t 36)), (some (32, false))⟩, ⟨(some 38), (.len 1 (.t 37)), (some (32, false))⟩, ⟨(some 39), (.bin .neq .bad (.t 35) (.t 38)), (some (32, false))⟩, ⟨(some 40), (.pick (.t 32) (.c (.d (.b true))) (.t 39)), none⟩])
 (.cond (.t 40)
 (.seq (.reg [⟨(some 4), (.mv (.c (.d (.b false)))), none⟩])
 .ret)
 .skip))
 (.seq (.seq (.reg [⟨(some 41), (.fadd 3 (.t 2)), none⟩, ⟨(some 42), (.load false 1 (.t 41)), none⟩, ⟨(some 43), (.len 1 (.t 42)), none⟩, ⟨(some 44), (.mv (.c (.d (.i .i64 0)))), none⟩])
 (.blk 0 (.loop (.seq (.reg [⟨(some 45), (.bin .lss .bad (.t 44) (.t 43)), none⟩])
 (.seq (.cond (.t 45)
 .skip
 (.exit 0))
 (.seq (.blk 1 (.seq (.reg [⟨(some 46), (.mv (.t 44)), none⟩, ⟨(some 5), (.mv (.t 46)), none⟩])
 (.seq (.dreg 0 [⟨⟨(some 47), (.fadd 3 (.t 2)), none⟩, 0, false, [], none⟩, ⟨⟨(some 48), (.load false 1 (.t 47)), none⟩, 1, false, [], none⟩, ⟨⟨(some 49), (.mv (.t 5)), none⟩, 2, false, [], none⟩, ⟨⟨(some 50), (.iaS 4 (.t 48) (.t 49)), none⟩, 3, false, [], none⟩, ⟨⟨(some 51), (.load true 4 (.t 50)), none⟩, 4, false, [], none⟩, ⟨⟨(some 52), (.fadd 3 (.t 3)), none⟩, 5, false, [], none⟩, ⟨⟨(some 53), (.load false 1 (.t 52)), none⟩, 6, false, [], none⟩, ⟨⟨(some 54), (.mv (.t 5)), none⟩, 7, false, [], none⟩, ⟨⟨(some 55), (.iaS 4 (.t 53) (.t 54)), none⟩, 8, false, [], none⟩, ⟨⟨(some 56), (.load true 4 (.t 55)), none⟩, 9, false, [], none⟩, ⟨⟨(some 57), (.callf 18 [(.t 51), (.t 56)]), none⟩, 10, true, [], none⟩, ⟨⟨(some 58), (.un .not (.t 57)), none⟩, 11, false, [10], none⟩])
 (.cond (.t 58)
 (.seq (.reg [⟨(some 4), (.mv (.c (.d (.b false)))), none⟩])
 .ret)
 .skip))))
 (.reg [⟨(some 59), (.bin .add .bad (.t 44) (.c (.d (.i .i64 1)))), none⟩, ⟨(some 44), (.mv (.t 59)), none⟩])))))))
 (.seq (.reg [⟨(some 4), (.mv (.c (.d (.b true)))), none⟩])
 .ret)))), false⟩
/-- (*foreman/step.Machine).Do -/
def a7 : AFn := ⟨24, [.cell 4 true 5],
 (.seq (.reg [⟨(some 3), (.box 27 (.t 1)), none⟩, ⟨(some 4), (.alloc 44 [(.d (.i .i64 0)), (.d (.i .i64 0)), (.d (.i .i64 0)), .nilsl, (.d (.i .u8 0))]), none⟩])
 (.seq (.blk 0 (.seq (.reg [⟨(some 7), (.mv (.t 0)), none⟩, ⟨(some 8), (.callf 19 [(.t 7)]), none⟩, ⟨(some 6), (.mv (.t 8)), none⟩])
 (.cond (.t 6)
 (.seq (.reg [⟨(some 9), (.callf 20 [(.c (.d (.i .i64 1)))]), none⟩, ⟨none, (.store 5 (.t 4) (.t 9)), none⟩])
 .ret)
 (.seq (.reg [⟨(some 11), (.load true 9 (.t 3)), none⟩, ⟨(some 12), (.callf 21 [(.t 11)]), none⟩, ⟨(some 13), (.un .not (.t 12)), none⟩, ⟨(some 10), (.mv (.t 13)), none⟩])
 (.cond (.t 10)
 (.seq (.reg [⟨(some 14), (.callf 20 [(.c (.d (.i .i64 2)))]), none⟩, ⟨none, (.store 5 (.t 4) (.t 14)), none⟩])
 .ret)
 .skip)))))
 (.seq (.reg [⟨(some 15), .mkmap, none⟩, ⟨none, (.mupd (.one .i) (.t 15) (.c (.d (.i .u8 1))) (.c (.d (.fn (.func 22) [] [])))), none⟩, ⟨none, (.mupd (.one .i) (.t 15) (.c (.d (.i .u8 2))) (.c (.d (.fn (.func 23) [] [])))), none⟩, ⟨none, (.mupd (.one .i) (.t 15) (.c (.d (.i .u8 3))) (.c (.d (.fn (.func 24) [] [])))), none⟩, ⟨none, (.mupd (.one .i) (.t 15) (.c (.d (.i .u8 4))) (.c (.d (.fn (.func 25) [] [])))), none⟩, ⟨none, (.mupd (.one .i) (.t 15) (.c (.d (.i .u8 5))) (.c (.d (.fn (.func 26) [] [])))), none⟩, ⟨(some 16), (.mv (.t 15)), none⟩, ⟨(some 5), (.mv (.t 16)), none⟩])
 (.seq (.reg [⟨(some 17), (.mv (.t 5)), none⟩, ⟨(some 18), (.fadd 0 (.t 3)), none⟩, ⟨(some 19), (.load false 1 (.t 18)), none⟩, ⟨(some 20), (.look (.one .i) false [(.d .nilf)] false (.t 17) (.t 19)), none⟩, ⟨(some 21), (.mv (.t 0)), none⟩, ⟨(some 22), (.load true 9 (.t 3)), none⟩, ⟨(some 23), (.callv (.t 20) [(.t 21), (.t 22)]), none⟩, ⟨none, (.store 5 (.t 4) (.t 23)), none⟩])
 .ret)))), false⟩
/-- (*foreman/step.Machine).Lose -/
def a8 : AFn := ⟨39, [.tmp 2],
 (.seq (.reg [⟨(some 2), (.mv (.c (.d (.i .i64 0)))), none⟩])
 (.seq (.seq (.reg [⟨(some 6), (.mv (.t 0)), none⟩, ⟨(some 7), (.callf 19 [(.t 6)]), none⟩])
 (.cond (.t 7)
 (.seq (.reg [⟨(some 2), (.mv (.c (.d (.i .i64 0)))), none⟩])
 .ret)
 .skip))
 (.seq (.reg [⟨(some 3), (.mv (.c (.d (.i .i64 0)))), none⟩])
 (.seq (.seq (.reg [⟨(some 8), (.mv (.t 0)), none⟩, ⟨(some 9), (.nilchk (.t 8)), none⟩, ⟨(some 10), (.fadd 0 (.t 9)), none⟩, ⟨(some 11), (.fadd 6 (.t 10)), none⟩, ⟨(some 12), (.load false 1 (.t 11)), none⟩, ⟨(some 13), (.len 1 (.t 12)), none⟩, ⟨(some 14), (.mv (.c (.d (.i .i64 0)))), none⟩])
 (.blk 0 (.loop (.seq (.reg [⟨(some 15), (.bin .lss .bad (.t 14) (.t 13)), none⟩])
 (.seq (.cond (.t 15)
 .skip
 (.exit 0))
 (.seq (.blk 1 (.seq (.reg [⟨(some 16), (.mv (.t 14)), none⟩, ⟨(some 4), (.mv (.t 16)), none⟩])
 (.seq (.reg [⟨(some 17), (.mv (.t 0)), none⟩, ⟨(some 18), (.nilchk (.t 17)), none⟩, ⟨(some 19), (.fadd 0 (.t 18)), none⟩, ⟨(some 20), (.fadd 6 (.t 19)), none⟩, ⟨(some 21), (.load false 1 (.t 20)), none⟩, ⟨(some 22), (.mv (.t 4)), none⟩, ⟨(some 23), (.iaS 16 (.t 21) (.t 22)), none⟩, ⟨(some 5), (.mv (.t 23)), none⟩])
 (.seq (.reg [⟨(some 24), (.mv (.t 5)), none⟩, ⟨(some 25), (.nilchk (.t 24)), none⟩, ⟨(some 26), (.fadd 9 (.t 25)), none⟩, ⟨(some 27), (.load false 1 (.t 26)), none⟩, ⟨(some 28), (.bin .eql .bad (.t 27) (.c (.d (.i .u8 2)))), none⟩])
 (.cond (.t 28)
 (.seq (.reg [⟨(some 29), (.mv (.t 5)), none⟩, ⟨(some 30), (.mv (.t 5)), none⟩, ⟨(some 31), (.nilchk (.t 29)), none⟩, ⟨(some 32), (.fadd 9 (.t 31)), none⟩, ⟨none, (.store 1 (.t 32) (.c (.d (.i .u8 1)))), none⟩, ⟨(some 33), (.nilchk (.t 30)), none⟩, ⟨(some 34), (.fadd 11 (.t 33)), none⟩, ⟨none, (.store 1 (.t 34) (.c (.d (.i .i64 0)))), none⟩])
 (.reg [⟨(some 35), (.mv (.t 3)), none⟩, ⟨(some 36), (.bin .add .bad (.t 35) (.c (.d (.i .i64 1)))), none⟩, ⟨(some 3), (.mv (.t 36)), none⟩]))
 .skip)))))
 (.reg [⟨(some 37), (.bin .add .bad (.t 14) (.c (.d (.i .i64 1)))), none⟩, ⟨(some 14), (.mv (.t 37)), none⟩])))))))
 (.seq (.reg [⟨(some 38), (.mv (.t 3)), none⟩, ⟨(some 2), (.mv (.t 38)), none⟩])
 .ret))))), false⟩
/-- (*foreman/step.Machine).State -/
def a9 : AFn := ⟨11, [.cell 2 true 8],
 (.seq (.reg [⟨(some 2), (.alloc 36 [(.d (.i .i64 0)), (.d (.i .i64 0)), (.d (.i .i64 0)), (.d (.i .i64 0)), (.d (.i .i64 0)), (.d (.i .i64 0)), .nilsl, (.d (.i .i64 0))]), none⟩])
 (.seq (.seq (.reg [⟨(some 3), (.mv (.t 0)), none⟩, ⟨(some 4), (.callf 19 [(.t 3)]), none⟩])
 (.cond (.t 4)
 (.seq (.reg [⟨(some 5), (.build [(.d (.i .i64 0)), (.d (.i .i64 0)), (.d (.i .i64 0)), (.d (.i .i64 0)), (.d (.i .i64 0)), (.d (.i .i64 0)), .nilsl, (.d (.i .i64 0))] []), none⟩, ⟨none, (.store 8 (.t 2) (.t 5)), none⟩])
 .ret)
 .skip))
 (.seq (.reg [⟨(some 6), (.mv (.t 0)), none⟩, ⟨(some 7), (.nilchk (.t 6)), none⟩, ⟨(some 8), (.fadd 0 (.t 7)), none⟩, ⟨(some 9), (.load true 8 (.t 8)), none⟩, ⟨(some 10), (.callf 27 [(.t 9)]), none⟩, ⟨none, (.store 8 (.t 2) (.t 10)), none⟩])
 .ret))), false⟩
/-- (*foreman/step.Machine).Places -/
def a10 : AFn := ⟨10, [.tmp 2],
 (.seq (.reg [⟨(some 2), (.mv (.c .nilsl)), none⟩])
 (.seq (.seq (.reg [⟨(some 3), (.mv (.t 0)), none⟩, ⟨(some 4), (.callf 19 [(.t 3)]), none⟩])
 (.cond (.t 4)
 (.seq (.reg [⟨(some 2), (.mv (.c .nilsl)), none⟩])
 .ret)
 .skip))
 (.seq (.reg [⟨(some 5), (.mv (.t 0)), none⟩, ⟨(some 6), (.nilchk (.t 5)), none⟩, ⟨(some 7), (.fadd 8 (.t 6)), none⟩, ⟨(some 8), (.load false 1 (.t 7)), none⟩, ⟨(some 9), (.callf 28 [(.t 8)]), none⟩, ⟨(some 2), (.mv (.t 9)), none⟩])
 .ret))), false⟩
/-- (*foreman/step.Machine).Copy -/
def a11 : AFn := ⟨17, [.tmp 2],
 (.seq (.reg [⟨(some 2), (.mv (.c (.d .nilp))), none⟩])
 (.seq (.seq (.reg [⟨(some 3), (.mv (.t 0)), none⟩, ⟨(some 4), (.callf 19 [(.t 3)]), none⟩])
 (.cond (.t 4)
 (.seq (.reg [⟨(some 2), (.mv (.c (.d .nilp))), none⟩])
 .ret)
 .skip))
 (.seq (.dreg 1 [⟨⟨(some 5), (.mv (.t 0)), none⟩, 0, false, [], none⟩, ⟨⟨(some 6), (.nilchk (.t 5)), none⟩, 1, false, [], none⟩, ⟨⟨(some 7), (.fadd 0 (.t 6)), none⟩, 2, false, [], none⟩, ⟨⟨(some 8), (.load true 8 (.t 7)), none⟩, 3, false, [], none⟩, ⟨⟨(some 9), (.callf 27 [(.t 8)]), none⟩, 4, true, [], none⟩, ⟨⟨(some 10), (.mv (.t 0)), none⟩, 5, false, [], none⟩, ⟨⟨(some 11), (.nilchk (.t 10)), none⟩, 6, false, [], none⟩, ⟨⟨(some 12), (.fadd 8 (.t 11)), none⟩, 7, false, [], none⟩, ⟨⟨(some 13), (.load false 1 (.t 12)), none⟩, 8, false, [], none⟩, ⟨⟨(some 14), (.callf 29 [(.t 13)]), none⟩, 9, true, [], none⟩, ⟨⟨(some 15), (.build [(.d (.i .i64 0)), (.d (.i .i64 0)), (.d (.i .i64 0)), (.d (.i .i64 0)), (.d (.i .i64 0)), (.d (.i .i64 0)), .nilsl, (.d (.i .i64 0)), (.d .nilp)] [(0, 8, (.t 9)), (8, 1, (.t 14))]), none⟩, 10, false, [9, 4], none⟩, ⟨⟨(some 16), (.box 39 (.t 15)), none⟩, 11, false, [], (some 0)⟩, ⟨⟨(some 2), (.mv (.t 16)), none⟩, 12, false, [9, 4], none⟩])
 .ret))), true⟩
/-- foreman/step.New -/
def a12 : AFn := ⟨9, [.tmp 2, .tmp 3],
 (.seq (.reg [⟨(some 1), (.box 33 (.t 0)), none⟩, ⟨(some 2), (.mv (.c (.d .nilp))), none⟩, ⟨(some 3), (.mv (.c (.d (.i .i64 0)))), none⟩])
 (.seq (.reg [⟨(some 4), (.load true 5 (.t 1)), none⟩, ⟨(some 5), (.build [(.d (.i .i64 0)), (.d (.i .i64 0)), (.d (.i .i64 0)), (.d (.i .i64 0)), (.d (.i .i64 0)), (.d (.i .i64 0)), .nilsl, (.d (.i .i64 0))] [(0, 5, (.t 4))]), none⟩, ⟨(some 6), (.callf 13 [(.t 5)]), none⟩, ⟨(some 7), (.extr (.t 6) 0), none⟩, ⟨(some 8), (.extr (.t 6) 1), none⟩, ⟨(some 2), (.mv (.t 7)), none⟩, ⟨(some 3), (.mv (.t 8)), none⟩])
 .ret)), true⟩
/-- foreman/step.From -/
def a13 : AFn := ⟨22, [.tmp 2, .tmp 3],
 (.seq (.reg [⟨(some 1), (.box 36 (.t 0)), none⟩, ⟨(some 2), (.mv (.c (.d .nilp))), none⟩, ⟨(some 3), (.mv (.c (.d (.i .i64 0)))), none⟩])
 (.seq (.seq (.reg [⟨(some 6), (.load true 8 (.t 1)), none⟩, ⟨(some 7), (.callf 30 [(.t 6)]), none⟩, ⟨(some 8), (.bin .neq .bad (.t 7) (.c (.d (.i .i64 0)))), none⟩])
 (.cond (.t 8)
 (.seq (.reg [⟨(some 2), (.mv (.c (.d .nilp))), none⟩, ⟨(some 3), (.mv (.c (.d (.i .i64 2)))), none⟩])
 .ret)
 .skip))
 (.seq (.reg [⟨(some 10), (.load true 8 (.t 1)), none⟩, ⟨(some 11), (.callf 31 [(.t 10)]), none⟩, ⟨(some 9), (.mv (.t 11)), none⟩, ⟨(some 12), (.extr (.t 9) 0), none⟩, ⟨(some 13), (.extr (.t 9) 1), none⟩, ⟨(some 4), (.mv (.t 12)), none⟩, ⟨(some 5), (.mv (.t 13)), none⟩])
 (.seq (.seq (.reg [⟨(some 14), (.mv (.t 5)), none⟩, ⟨(some 15), (.bin .neq .bad (.t 14) (.c (.d (.i .i64 0)))), none⟩])
 (.cond (.t 15)
 (.seq (.reg [⟨(some 16), (.mv (.t 5)), none⟩, ⟨(some 2), (.mv (.c (.d .nilp))), none⟩, ⟨(some 3), (.mv (.t 16)), none⟩])
 .ret)
 .skip))
 (.seq (.reg [⟨(some 17), (.load true 8 (.t 1)), none⟩, ⟨(some 18), (.callf 27 [(.t 17)]), none⟩, ⟨(some 19), (.mv (.t 4)), none⟩, ⟨(some 20), (.build [(.d (.i .i64 0)), (.d (.i .i64 0)), (.d (.i .i64 0)), (.d (.i .i64 0)), (.d (.i .i64 0)), (.d (.i .i64 0)), .nilsl, (.d (.i .i64 0)), (.d .nilp)] [(0, 8, (.t 18)), (8, 1, (.t 19))]), none⟩, ⟨(some 21), (.box 39 (.t 20)), none⟩, ⟨(some 2), (.mv (.t 21)), none⟩, ⟨(some 3), (.mv (.c (.d (.i .i64 0)))), none⟩])
 .ret))))), true⟩
/-- foreman/foremanlow.Shallow -/
def a14 : AFn := ⟨6, [.tmp 2],
 (.seq (.reg [⟨(some 1), (.box 24 (.t 0)), none⟩, ⟨(some 2), (.mv (.c (.d (.b false)))), none⟩])
 (.seq (.reg [⟨(some 3), (.load true 4 (.t 1)), none⟩, ⟨(some 4), (.callf 32 [(.t 3), (.c (.d (.i .i64 20)))]), none⟩, ⟨(some 5), (.bin .leq .bad (.t 4) (.c (.d (.i .i64 400)))), none⟩, ⟨(some 2), (.mv (.t 5)), none⟩])
 .ret)), false⟩
/-- foreman/foremanlaw23.Config -/
def a15 : AFn := ⟨2, [.cell 0 true 5],
 (.seq (.reg [⟨(some 0), (.alloc 33 [(.d (.i .i64 0)), (.d (.i .i64 0)), (.d (.i .i64 0)), (.d (.i .i64 0)), (.d (.i .i64 0))]), none⟩])
 (.seq (.reg [⟨(some 1), (.build [(.d (.i .i64 0)), (.d (.i .i64 0)), (.d (.i .i64 0)), (.d (.i .i64 0)), (.d (.i .i64 0))] [(0, 1, (.c (.d (.i .i64 20)))), (1, 1, (.c (.d (.i .i64 3)))), (2, 1, (.c (.d (.i .i64 5)))), (3, 1, (.c (.d (.i .i64 1)))), (4, 1, (.c (.d (.i .i64 2))))]), none⟩, ⟨none, (.store 5 (.t 0) (.t 1)), none⟩])
 .ret)), false⟩
/-- foreman/foremanlaw23.told -/
def a16 : AFn := ⟨12, [.tmp 6],
 (.seq (.reg [⟨(some 4), (.box 27 (.t 1)), none⟩, ⟨(some 5), (.box 44 (.t 2)), none⟩, ⟨(some 6), (.mv (.c (.d (.b false)))), none⟩])
 (.seq (.dreg 0 [⟨⟨(some 7), (.mv (.t 0)), none⟩, 0, false, [], none⟩, ⟨⟨(some 8), (.load true 9 (.t 4)), none⟩, 1, false, [], none⟩, ⟨⟨(some 9), (.callf 7 [(.t 7), (.t 8)]), none⟩, 2, true, [], none⟩, ⟨⟨(some 10), (.load true 5 (.t 5)), none⟩, 3, false, [], none⟩, ⟨⟨(some 11), (.callf 6 [(.t 9), (.t 10)]), none⟩, 4, true, [], none⟩, ⟨⟨(some 6), (.mv (.t 11)), none⟩, 5, false, [4, 2], none⟩])
 .ret)), false⟩
/-- foreman/step.Takes -/
def a17 : AFn := ⟨19, [.tmp 4],
 (.seq (.reg [⟨(some 2), (.box 27 (.t 0)), none⟩, ⟨(some 4), (.mv (.c (.d (.b false)))), none⟩])
 (.seq (.seq (.reg [⟨(some 5), (.mv (.t 1)), none⟩])
 (.blk 0 (.seq (.reg [⟨(some 7), (.bin .eql .bad (.t 5) (.c (.d (.i .i64 0)))), none⟩, ⟨(some 6), (.mv (.t 7)), none⟩])
 (.cond (.t 6)
 (.seq (.reg [⟨(some 4), (.mv (.c (.d (.b true)))), none⟩])
 .ret)
 (.seq (.seq (.reg [⟨(some 9), (.bin .eql .bad (.t 5) (.c (.d (.i .i64 26)))), none⟩, ⟨(some 8), (.mv (.t 9)), none⟩])
 (.cond (.t 8)
 .skip
 (.seq (.reg [⟨(some 10), (.bin .eql .bad (.t 5) (.c (.d (.i .i64 24)))), none⟩, ⟨(some 8), (.mv (.t 10)), none⟩])
 (.cond (.t 8)
 .skip
 (.seq (.reg [⟨(some 11), (.bin .eql .bad (.t 5) (.c (.d (.i .i64 20)))), none⟩, ⟨(some 8), (.mv (.t 11)), none⟩])
 (.cond (.t 8)
 .skip
 (.seq (.reg [⟨(some 12), (.bin .eql .bad (.t 5) (.c (.d (.i .i64 23)))), none⟩, ⟨(some 8), (.mv (.t 12)), none⟩])
 (.cond (.t 8)
 .skip
 (.seq (.reg [⟨(some 13), (.bin .eql .bad (.t 5) (.c (.d (.i .i64 21)))), none⟩, ⟨(some 8), (.mv (.t 13)), none⟩])
 (.cond (.t 8)
 .skip
 (.seq (.reg [⟨(some 14), (.bin .eql .bad (.t 5) (.c (.d (.i .i64 22)))), none⟩, ⟨(some 8), (.mv (.t 14)), none⟩])
 (.cond (.t 8)
 .skip
 (.reg [⟨(some 15), (.bin .eql .bad (.t 5) (.c (.d (.i .i64 25)))), none⟩, ⟨(some 8), (.mv (.t 15)), none⟩])))))))))))))
 (.cond (.t 8)
 (.seq (.reg [⟨(some 16), (.fadd 0 (.t 2)), none⟩, ⟨(some 17), (.load false 1 (.t 16)), none⟩, ⟨(some 18), (.bin .eql .bad (.t 17) (.c (.d (.i .u8 3)))), none⟩, ⟨(some 4), (.mv (.t 18)), none⟩])
 .ret)
 .skip))))))
 (.seq (.reg [⟨(some 4), (.mv (.c (.d (.b false)))), none⟩])
 .ret))), false⟩
/-- foreman/foremanlow.SameValue -/
def a18 : AFn := ⟨53, [.tmp 4],
 (.seq (.reg [⟨(some 2), (.box 24 (.t 0)), none⟩, ⟨(some 3), (.box 24 (.t 1)), none⟩, ⟨(some 4), (.mv (.c (.d (.b false)))), none⟩])
 (.seq (.seq (.reg [⟨(some 6), (.fadd 0 (.t 2)), none⟩, ⟨(some 7), (.load false 1 (.t 6)), none⟩, ⟨(some 8), (.fadd 0 (.t 3)), none⟩, ⟨(some 9), (.load false 1 (.t 8)), none⟩, ⟨(some 10), (.bin .neq .bad (.t 7) (.t 9)), none⟩, ⟨(some 11), (.mv (.t 10)), none⟩, ⟨(some 12), (.fadd 1 (.t 2)), (some (11, false))⟩, ⟨(some 13), (.load false 1 (.t 12)), (some (11, false))⟩, ⟨(some 14), (.fadd 1 (.t 3)), (some (11, false))⟩, ⟨(some 15), (.load false 1 (.t 14)), (some (11, false))⟩, ⟨(some 16), (.bin .neq .bad (.t 13) (.t 15)), (some (11, false))⟩, ⟨(some 17), (.pick (.t 11) (.c (.d (.b true))) (.t 16)), none⟩, ⟨(some 18), (.mv (.t 17)), none⟩, ⟨(some 19), (.fadd 2 (.t 2)), (some (18, false))⟩, ⟨(some 20), (.load false 1 (.t 19)), (some (18, false))⟩, ⟨(some 21), (.fadd 2 (.t 3)), (some (18, false))⟩, ⟨(some 22), (.load false 1 (.t 21)), (some (18, false))⟩, ⟨(some 23), (.bin .neq .bad (.t 20) (.t 22)), (some (18, false))⟩, ⟨(some 24), (.pick (.t 18) (.c (.d (.b true))) (.t 23)), none⟩, ⟨(some 25), (.mv (.t 24)), none⟩, ⟨(some 26), (.fadd 3 (.t 2)), (some (25, false))⟩, ⟨(some 27), (.load false 1 (.t 26)), (some (25, false))⟩, ⟨(some 28), (.len 1 (.t 27)), (some (25, false))⟩, ⟨(some 29), (.fadd 3 (.t 3)), (some (25, false))⟩, ⟨(some 30), (.load false 1 (.t 29)), (some (25, false))⟩, ⟨(some 31), (.len 1 (.t 30)), (some (25, false))⟩, ⟨(some 32), (.bin .neq .bad (.t 28) (.t 31)), (some (25, false))⟩, ⟨(some 33), (.pick (.t 25) (.c (.d (.b true))) (.t 32)), none⟩])
 (.cond (.t 33)
 (.seq (.reg [⟨(some 4), (.mv (.c (.d (.b false)))), none⟩])
 .ret)
 .skip))
 (.seq (.seq (.reg [⟨(some 34), (.fadd 3 (.t 2)), none⟩, ⟨(some 35), (.load false 1 (.t 34)), none⟩, ⟨(some 36), (.len 1 (.t 35)), none⟩, ⟨(some 37), (.mv (.c (.d (.i .i64 0)))), none⟩])
 (.blk 0 (.loop (.seq (.reg [⟨(some 38), (.bin .lss .bad (.t 37) (.t 36)), none⟩])
 (.seq (.cond (.t 38)
 .skip
 (.exit 0))
 (.seq (.blk 1 (.seq (.reg [⟨(some 39), (.mv (.t 37)), none⟩, ⟨(some 5), (.mv (.t 39)), none⟩])
 (.seq (.dreg 0 [⟨⟨(some 40), (.fadd 3 (.t 2)), none⟩, 0, false, [], none⟩, ⟨⟨(some 41), (.load false 1 (.t 40)), none⟩, 1, false, [], none⟩, ⟨⟨(some 42), (.mv (.t 5)), none⟩, 2, false, [], none⟩, ⟨⟨(some 43), (.iaS 4 (.t 41) (.t 42)), none⟩, 3, false, [], none⟩, ⟨⟨(some 44), (.load true 4 (.t 43)), none⟩, 4, false, [], none⟩, ⟨⟨(some 45), (.fadd 3 (.t 3)), none⟩, 5, false, [], none⟩, ⟨⟨(some 46), (.load false 1 (.t 45)), none⟩, 6, false, [], none⟩, ⟨⟨(some 47), (.mv (.t 5)), none⟩, 7, false, [], none⟩, ⟨⟨(some 48), (.iaS 4 (.t 46) (.t 47)), none⟩, 8, false, [], none⟩, ⟨⟨(some 49), (.load true 4 (.t 48)), none⟩, 9, false, [], none⟩, ⟨⟨(some 50), (.callf 18 [(.t 44), (.t 49)]), none⟩, 10, true, [], none⟩, ⟨⟨(some 51), (.un .not (.t 50)), none⟩, 11, false, [10], none⟩])
 (.cond (.t 51)
 (.seq (.reg [⟨(some 4), (.mv (.c (.d (.b false)))), none⟩])
 .ret)
 .skip))))
 (.reg [⟨(some 52), (.bin .add .bad (.t 37) (.c (.d (.i .i64 1)))), none⟩, ⟨(some 37), (.mv (.t 52)), none⟩])))))))
 (.seq (.reg [⟨(some 4), (.mv (.c (.d (.b true)))), none⟩])
 .ret)))), false⟩
/-- (*foreman/step.Machine).none -/
def a19 : AFn := ⟨12, [.tmp 2],
 (.seq (.reg [⟨(some 2), (.mv (.c (.d (.b false)))), none⟩])
 (.seq (.reg [⟨(some 3), (.mv (.t 0)), none⟩, ⟨(some 4), (.bin .eql .ptr (.t 3) (.c (.d .nilp))), none⟩, ⟨(some 5), (.mv (.t 4)), none⟩, ⟨(some 6), (.mv (.t 0)), (some (5, false))⟩, ⟨(some 7), (.nilchk (.t 6)), (some (5, false))⟩, ⟨(some 8), (.fadd 8 (.t 7)), (some (5, false))⟩, ⟨(some 9), (.load false 1 (.t 8)), (some (5, false))⟩, ⟨(some 10), (.bin .eql .ptr (.t 9) (.c (.d .nilp))), (some (5, false))⟩, ⟨(some 11), (.pick (.t 5) (.c (.d (.b true))) (.t 10)), none⟩, ⟨(some 2), (.mv (.t 11)), none⟩])
 .ret)), false⟩
/-- foreman/step.refused -/
def a20 : AFn := ⟨5, [.cell 2 true 5],
 (.seq (.reg [⟨(some 2), (.alloc 44 [(.d (.i .i64 0)), (.d (.i .i64 0)), (.d (.i .i64 0)), .nilsl, (.d (.i .u8 0))]), none⟩])
 (.seq (.reg [⟨(some 3), (.mv (.t 0)), none⟩, ⟨(some 4), (.build [(.d (.i .i64 0)), (.d (.i .i64 0)), (.d (.i .i64 0)), .nilsl, (.d (.i .u8 0))] [(0, 1, (.t 3))]), none⟩, ⟨none, (.store 5 (.t 2) (.t 4)), none⟩])
 .ret)), false⟩
/-- foreman/op.Right -/
def a21 : AFn := ⟨76, [.tmp 2],
 (.seq (.reg [⟨(some 1), (.box 27 (.t 0)), none⟩, ⟨(some 2), (.mv (.c (.d (.b false)))), none⟩])
 (.seq (.reg [⟨(some 4), (.fadd 0 (.t 1)), none⟩, ⟨(some 5), (.load false 1 (.t 4)), none⟩, ⟨(some 6), (.callf 33 [(.t 5)]), none⟩, ⟨(some 3), (.mv (.t 6)), none⟩])
 (.seq (.dreg 0 [⟨⟨(some 7), (.mv (.t 3)), none⟩, 0, false, [], none⟩, ⟨⟨(some 8), (.bin .neq .bad (.t 7) (.c (.d (.i .u8 0)))), none⟩, 1, false, [], none⟩, ⟨⟨(some 9), (.mv (.t 8)), none⟩, 2, false, [], none⟩, ⟨⟨(some 13), (.fadd 7 (.t 1)), (some (9, true))⟩, 6, false, [], none⟩, ⟨⟨(some 14), (.load false 1 (.t 13)), (some (9, true))⟩, 7, false, [], none⟩, ⟨⟨(some 15), (.callf 35 [(.t 14)]), (some (9, true))⟩, 8, true, [], none⟩, ⟨⟨(some 10), (.mv (.t 3)), (some (9, true))⟩, 3, false, [], none⟩, ⟨⟨(some 11), (.bin .and .bad (.t 10) (.c (.d (.i .u8 1)))), (some (9, true))⟩, 4, false, [], none⟩, ⟨⟨(some 12), (.bin .neq .bad (.t 11) (.c (.d (.i .u8 0)))), (some (9, true))⟩, 5, false, [], none⟩, ⟨⟨(some 16), (.fadd 7 (.t 1)), (some (9, true))⟩, 9, false, [], none⟩, ⟨⟨(some 17), (.load false 1 (.t 16)), (some (9, true))⟩, 10, false, [], none⟩, ⟨⟨(some 18), (.len 1 (.t 17)), (some (9, true))⟩, 11, false, [], none⟩, ⟨⟨(some 19), (.bin .eql .bad (.t 18) (.c (.d (.i .i64 0)))), (some (9, true))⟩, 12, false, [], none⟩, ⟨⟨(some 20), (.callf 34 [(.t 12), (.t 15), (.t 19)]), (some (9, true))⟩, 13, true, [], none⟩, ⟨⟨(some 21), (.pick (.t 9) (.t 20) (.c (.d (.b false)))), none⟩, 14, false, [13, 8], none⟩, ⟨⟨(some 22), (.mv (.t 21)), none⟩, 15, false, [13, 8], none⟩, ⟨⟨(some 23), (.mv (.t 3)), (some (22, true))⟩, 16, false, [13, 8], none⟩, ⟨⟨(some 24), (.bin .and .bad (.t 23) (.c (.d (.i .u8 2)))), (some (22, true))⟩, 17, false, [13, 8], none⟩, ⟨⟨(some 25), (.bin .neq .bad (.t 24) (.c (.d (.i .u8 0)))), (some (22, true))⟩, 18, false, [13, 8], none⟩, ⟨⟨(some 26), (.fadd 8 (.t 1)), (some (22, true))⟩, 19, false, [13, 8], none⟩, ⟨⟨(some 27), (.load false 1 (.t 26)), (some (22, true))⟩, 20, false, [13, 8], none⟩, ⟨⟨(some 28), (.bin .geq .bad (.t 27) (.c (.d (.i .i64 0)))), (some (22, true))⟩, 21, false, [13, 8], none⟩, ⟨⟨(some 29), (.mv (.t 28)), (some (22, true))⟩, 22, false, [13, 8], none⟩, ⟨⟨(some 30), (.fadd 8 (.t 1)), (some (29, true))⟩, 23, false, [13, 8], none⟩, ⟨⟨(some 31), (.load false 1 (.t 30)), (some (29, true))⟩, 24, false, [13, 8], none⟩, ⟨⟨(some 32), (.bin .leq .bad (.t 31) (.c (.d (.i .i64 400)))), (some (29, true))⟩, 25, false, [13, 8], none⟩, ⟨⟨(some 33), (.pick (.t 29) (.t 32) (.c (.d (.b false)))), (some (22, true))⟩, 26, false, [13, 8], none⟩, ⟨⟨(some 34), (.fadd 8 (.t 1)), (some (22, true))⟩, 27, false, [13, 8], none⟩, ⟨⟨(some 35), (.load false 1 (.t 34)), (some (22, true))⟩, 28, false, [13, 8], none⟩, ⟨⟨(some 36), (.bin .eql .bad (.t 35) (.c (.d (.i .i64 0)))), (some (22, true))⟩, 29, false, [13, 8], none⟩, ⟨⟨(some 37), (.callf 34 [(.t 25), (.t 33), (.t 36)]), (some (22, true))⟩, 30, true, [], none⟩, ⟨⟨(some 38), (.pick (.t 22) (.t 37) (.c (.d (.b false)))), none⟩, 31, false, [30, 13, 8], none⟩, ⟨⟨(some 39), (.mv (.t 38)), none⟩, 32, false, [30, 13, 8], none⟩, ⟨⟨(some 43), (.fadd 1 (.t 1)), (some (39, true))⟩, 36, false, [30, 13, 8], none⟩, ⟨⟨(some 44), (.load false 1 (.t 43)), (some (39, true))⟩, 37, false, [30, 13, 8], none⟩, ⟨⟨(some 45), (.callf 36 [(.t 44)]), (some (39, true))⟩, 38, true, [], none⟩, ⟨⟨(some 40), (.mv (.t 3)), (some (39, true))⟩, 33, false, [30, 13, 8], none⟩, ⟨⟨(some 41), (.bin .and .bad (.t 40) (.c (.d (.i .u8 4)))), (some (39, true))⟩, 34, false, [30, 13, 8], none⟩, ⟨⟨(some 42), (.bin .neq .bad (.t 41) (.c (.d (.i .u8 0)))), (some (39, true))⟩, 35, false, [30, 13, 8], none⟩, ⟨⟨(some 46), (.fadd 1 (.t 1)), (some (39, true))⟩, 39, false, [30, 13, 8], none⟩, ⟨⟨(some 47), (.load false 1 (.t 46)), (some (39, true))⟩, 40, false, [30, 13, 8], none⟩, ⟨⟨(some 48), (.bin .eql .bad (.t 47) (.c (.d (.s [])))), (some (39, true))⟩, 41, false, [30, 13, 8], none⟩, ⟨⟨(some 49), (.callf 34 [(.t 42), (.t 45), (.t 48)]), (some (39, true))⟩, 42, true, [], none⟩, ⟨⟨(some 50), (.pick (.t 39) (.t 49) (.c (.d (.b false)))), none⟩, 43, false, [42, 38, 30, 13, 8], none⟩, ⟨⟨(some 51), (.mv (.t 50)), none⟩, 44, false, [42, 38, 30, 13, 8], none⟩, ⟨⟨(some 52), (.mv (.t 3)), (some (51, true))⟩, 45, false, [42, 38, 30, 13, 8], none⟩, ⟨⟨(some 53), (.bin .and .bad (.t 52) (.c (.d (.i .u8 8)))), (some (51, true))⟩, 46, false, [42, 38, 30, 13, 8], none⟩, ⟨⟨(some 54), (.bin .neq .bad (.t 53) (.c (.d (.i .u8 0)))), (some (51, true))⟩, 47, false, [42, 38, 30, 13, 8], none⟩, ⟨⟨(some 55), (.fadd 2 (.t 1)), (some (51, true))⟩, 48, false, [42, 38, 30, 13, 8], none⟩, ⟨⟨(some 56), (.load false 1 (.t 55)), (some (51, true))⟩, 49, false, [42, 38, 30, 13, 8], none⟩, ⟨⟨(some 57), (.bin .geq .bad (.t 56) (.c (.d (.i .i64 1)))), (some (51, true))⟩, 50, false, [42, 38, 30, 13, 8], none⟩, ⟨⟨(some 58), (.fadd 2 (.t 1)), (some (51, true))⟩, 51, false, [42, 38, 30, 13, 8], none⟩, ⟨⟨(some 59), (.load false 1 (.t 58)), (some (51, true))⟩, 52, false, [42, 38, 30, 13, 8], none⟩, ⟨⟨(some 60), (.bin .eql .bad (.t 59) (.c (.d (.i .i64 0)))), (some (51, true))⟩, 53, false, [42, 38, 30, 13, 8], none⟩, ⟨⟨(some 61), (.callf 34 [(.t 54), (.t 57), (.t 60)]), (some (51, true))⟩, 54, true, [], none⟩, ⟨⟨(some 62), (.pick (.t 51) (.t 61) (.c (.d (.b false)))), none⟩, 55, false, [54, 42, 38, 30, 13, 8], none⟩, ⟨⟨(some 63), (.mv (.t 62)), none⟩, 56, false, [54, 42, 38, 30, 13, 8], none⟩, ⟨⟨(some 67), (.fadd 3 (.t 1)), (some (63, true))⟩, 60, false, [54, 42, 38, 30, 13, 8], none⟩, ⟨⟨(some 68), (.load true 4 (.t 67)), (some (63, true))⟩, 61, false, [54, 42, 38, 30, 13, 8], none⟩, ⟨⟨(some 69), (.callf 37 [(.t 68)]), (some (63, true))⟩, 62, true, [], none⟩, ⟨⟨(some 70), (.fadd 3 (.t 1)), (some (63, true))⟩, 63, false, [54, 42, 38, 30, 13, 8], none⟩, ⟨⟨(some 71), (.load true 4 (.t 70)), (some (63, true))⟩, 64, false, [54, 42, 38, 30, 13, 8], none⟩, ⟨⟨(some 72), (.build [(.d (.i .u8 0)), (.d (.i .i64 0)), (.d (.s [])), .nilsl] []), (some (63, true))⟩, 65, false, [54, 42, 38, 30, 13, 8], none⟩, ⟨⟨(some 73), (.callf 38 [(.t 71), (.t 72)]), (some (63, true))⟩, 66, true, [], none⟩, ⟨⟨(some 64), (.mv (.t 3)), (some (63, true))⟩, 57, false, [54, 42, 38, 30, 13, 8], none⟩, ⟨⟨(some 65), (.bin .and .bad (.t 64) (.c (.d (.i .u8 16)))), (some (63, true))⟩, 58, false, [54, 42, 38, 30, 13, 8], none⟩, ⟨⟨(some 66), (.bin .neq .bad (.t 65) (.c (.d (.i .u8 0)))), (some (63, true))⟩, 59, false, [54, 42, 38, 30, 13, 8], none⟩, ⟨⟨(some 74), (.callf 34 [(.t 66), (.t 69), (.t 73)]), (some (63, true))⟩, 67, true, [], none⟩, ⟨⟨(some 75), (.pick (.t 63) (.t 74) (.c (.d (.b false)))), none⟩, 68, false, [67, 66, 62, 54, 42, 38, 30, 13, 8], none⟩, ⟨⟨(some 2), (.mv (.t 75)), none⟩, 69, false, [67, 66, 62, 54, 42, 38, 30, 13, 8], none⟩])
 .ret))), false⟩
/-- (*foreman/step.Machine).submit -/
def a22 : AFn := ⟨69, [.cell 4 true 5],
 (.seq (.reg [⟨(some 3), (.box 27 (.t 1)), none⟩, ⟨(some 4), (.alloc 44 [(.d (.i .i64 0)), (.d (.i .i64 0)), (.d (.i .i64 0)), .nilsl, (.d (.i .u8 0))]), none⟩])
 (.seq (.reg [⟨(some 10), (.mv (.t 0)), none⟩, ⟨(some 11), (.nilchk (.t 10)), none⟩, ⟨(some 12), (.fadd 0 (.t 11)), none⟩, ⟨(some 13), (.fadd 5 (.t 12)), none⟩, ⟨(some 14), (.load false 1 (.t 13)), none⟩, ⟨(some 5), (.mv (.t 14)), none⟩])
 (.seq (.blk 0 (.seq (.reg [⟨(some 16), (.mv (.t 5)), none⟩, ⟨(some 17), (.mv (.t 0)), none⟩, ⟨(some 18), (.nilchk (.t 17)), none⟩, ⟨(some 19), (.fadd 0 (.t 18)), none⟩, ⟨(some 20), (.fadd 0 (.t 19)), none⟩, ⟨(some 21), (.fadd 4 (.t 20)), none⟩, ⟨(some 22), (.load false 1 (.t 21)), none⟩, ⟨(some 23), (.bin .geq .bad (.t 16) (.t 22)), none⟩, ⟨(some 15), (.mv (.t 23)), none⟩])
 (.cond (.t 15)
 (.seq (.reg [⟨(some 24), (.callf 20 [(.c (.d (.i .i64 27)))]), none⟩, ⟨none, (.store 5 (.t 4) (.t 24)), none⟩])
 .ret)
 (.seq (.dreg 0 [⟨⟨(some 26), (.fadd 8 (.t 3)), none⟩, 0, false, [], none⟩, ⟨⟨(some 27), (.load false 1 (.t 26)), none⟩, 1, false, [], none⟩, ⟨⟨(some 28), (.mv (.t 0)), none⟩, 2, false, [], none⟩, ⟨⟨(some 29), (.nilchk (.t 28)), none⟩, 3, false, [], none⟩, ⟨⟨(some 30), (.fadd 0 (.t 29)), none⟩, 4, false, [], none⟩, ⟨⟨(some 31), (.fadd 0 (.t 30)), none⟩, 5, false, [], none⟩, ⟨⟨(some 32), (.fadd 0 (.t 31)), none⟩, 6, false, [], none⟩, ⟨⟨(some 33), (.load false 1 (.t 32)), none⟩, 7, false, [], none⟩, ⟨⟨(some 34), (.bin .gtr .bad (.t 27) (.t 33)), none⟩, 8, false, [], none⟩, ⟨⟨(some 25), (.mv (.t 34)), none⟩, 9, false, [], none⟩])
 (.cond (.t 25)
 (.seq (.reg [⟨(some 35), (.callf 20 [(.c (.d (.i .i64 22)))]), none⟩, ⟨none, (.store 5 (.t 4) (.t 35)), none⟩])
 .ret)
 .skip)))))
 (.seq (.reg [⟨(some 37), (.mv (.t 0)), none⟩, ⟨(some 38), (.mv (.t 5)), none⟩, ⟨(some 39), (.fadd 8 (.t 3)), none⟩, ⟨(some 40), (.load false 1 (.t 39)), none⟩, ⟨(some 41), (.fadd 7 (.t 3)), none⟩, ⟨(some 42), (.load false 1 (.t 41)), none⟩, ⟨(some 43), (.callf 39 [(.t 37), (.t 38), (.c (.d (.i .i64 (-1)))), (.t 40), (.t 42)]), none⟩, ⟨(some 36), (.mv (.t 43)), none⟩, ⟨(some 44), (.extr (.t 36) 0), none⟩, ⟨(some 45), (.extr (.t 36) 1), none⟩, ⟨(some 6), (.alloc 36 [(.d (.i .i64 0)), (.d (.i .i64 0)), (.d (.i .i64 0)), (.d (.i .i64 0)), (.d (.i .i64 0)), (.d (.i .i64 0)), .nilsl, (.d (.i .i64 0))]), none⟩, ⟨none, (.store 8 (.t 6) (.t 44)), none⟩, ⟨(some 7), (.mv (.t 45)), none⟩])
 (.seq (.seq (.reg [⟨(some 46), (.mv (.t 7)), none⟩, ⟨(some 47), (.bin .neq .bad (.t 46) (.c (.d (.i .i64 0)))), none⟩])
 (.cond (.t 47)
 (.seq (.reg [⟨(some 48), (.mv (.t 7)), none⟩, ⟨(some 49), (.callf 20 [(.t 48)]), none⟩, ⟨none, (.store 5 (.t 4) (.t 49)), none⟩])
 .ret)
 .skip))
 (.seq (.reg [⟨(some 50), (.fadd 5 (.t 6)), none⟩, ⟨(some 51), (.load false 1 (.t 50)), none⟩, ⟨(some 52), (.bin .add .bad (.t 51) (.c (.d (.i .i64 1)))), none⟩, ⟨(some 53), (.fadd 5 (.t 6)), none⟩, ⟨none, (.store 1 (.t 53) (.t 52)), none⟩])
 (.seq (.reg [⟨(some 54), (.mv (.t 0)), none⟩, ⟨(some 55), (.load true 8 (.t 6)), none⟩, ⟨(some 56), (.callf 40 [(.t 54), (.t 55)]), none⟩])
 (.seq (.reg [⟨(some 58), (.mv (.t 0)), none⟩, ⟨(some 59), (.nilchk (.t 58)), none⟩, ⟨(some 60), (.fadd 0 (.t 59)), none⟩, ⟨(some 61), (.load true 8 (.t 60)), none⟩, ⟨(some 62), (.mv (.t 5)), none⟩, ⟨(some 63), (.callf 41 [(.t 61), (.t 62)]), none⟩, ⟨(some 57), (.mv (.t 63)), none⟩, ⟨(some 64), (.extr (.t 57) 0), none⟩, ⟨(some 65), (.extr (.t 57) 1), none⟩, ⟨(some 8), (.mv (.t 64)), none⟩, ⟨(some 9), (.mv (.t 65)), none⟩])
 (.seq (.reg [⟨(some 66), (.mv (.t 5)), none⟩, ⟨(some 67), (.mv (.t 8)), none⟩, ⟨(some 68), (.build [(.d (.i .i64 0)), (.d (.i .i64 0)), (.d (.i .i64 0)), .nilsl, (.d (.i .u8 0))] [(1, 1, (.t 66)), (4, 1, (.t 67))]), none⟩, ⟨none, (.store 5 (.t 4) (.t 68)), none⟩])
 .ret))))))))), false⟩
/-- (*foreman/step.Machine).dispatch -/
def a23 : AFn := ⟨75, [.cell 4 true 5],
 (.seq (.reg [⟨(some 3), (.box 27 (.t 1)), none⟩, ⟨(some 4), (.alloc 44 [(.d (.i .i64 0)), (.d (.i .i64 0)), (.d (.i .i64 0)), .nilsl, (.d (.i .u8 0))]), none⟩])
 (.seq (.reg [⟨(some 8), (.mv (.t 0)), none⟩, ⟨(some 9), (.fadd 1 (.t 3)), none⟩, ⟨(some 10), (.load false 1 (.t 9)), none⟩, ⟨(some 11), (.callf 42 [(.t 8), (.t 10), (.c (.d (.i .u8 1)))]), none⟩, ⟨(some 7), (.mv (.t 11)), none⟩, ⟨(some 12), (.extr (.t 7) 0), none⟩, ⟨(some 13), (.extr (.t 7) 1), none⟩, ⟨(some 6), (.alloc 44 [(.d (.i .i64 0)), (.d (.i .i64 0)), (.d (.i .i64 0)), .nilsl, (.d (.i .u8 0))]), none⟩, ⟨(some 5), (.mv (.t 12)), none⟩, ⟨none, (.store 5 (.t 6) (.t 13)), none⟩])
 (.seq (.seq (.reg [⟨(some 14), (.fadd 0 (.t 6)), none⟩, ⟨(some 15), (.load false 1 (.t 14)), none⟩, ⟨(some 16), (.bin .neq .bad (.t 15) (.c (.d (.i .i64 0)))), none⟩])
 (.cond (.t 16)
 (.seq (.reg [⟨(some 17), (.load true 5 (.t 6)), none⟩, ⟨none, (.store 5 (.t 4) (.t 17)), none⟩])
 .ret)
 .skip))
 (.seq (.seq (.reg [⟨(some 18), (.mv (.t 0)), none⟩, ⟨(some 19), (.nilchk (.t 18)), none⟩, ⟨(some 20), (.fadd 0 (.t 19)), none⟩, ⟨(some 21), (.fadd 7 (.t 20)), none⟩, ⟨(some 22), (.load false 1 (.t 21)), none⟩, ⟨(some 23), (.bin .geq .bad (.t 22) (.c (.d (.i .i64 4611686018427387904)))), none⟩])
 (.cond (.t 23)
 (.seq (.reg [⟨(some 24), (.fadd 0 (.t 6)), none⟩, ⟨none, (.store 1 (.t 24) (.c (.d (.i .i64 12)))), none⟩])
 (.seq (.reg [⟨(some 25), (.load true 5 (.t 6)), none⟩, ⟨none, (.store 5 (.t 4) (.t 25)), none⟩])
 .ret))
 .skip))
 (.seq (.reg [⟨(some 27), (.mv (.t 0)), none⟩, ⟨(some 28), (.nilchk (.t 27)), none⟩, ⟨(some 29), (.fadd 0 (.t 28)), none⟩, ⟨(some 30), (.fadd 6 (.t 29)), none⟩, ⟨(some 31), (.load false 1 (.t 30)), none⟩, ⟨(some 32), (.mv (.t 5)), none⟩, ⟨(some 33), (.callf 43 [(.t 31), (.t 32)]), none⟩, ⟨(some 26), (.mv (.t 33)), none⟩, ⟨(some 34), (.extr (.t 26) 0), none⟩, ⟨(some 35), (.extr (.t 26) 1), none⟩, ⟨(some 36), (.fadd 3 (.t 6)), none⟩, ⟨none, (.store 1 (.t 36) (.t 34)), none⟩])
 (.seq (.reg [⟨(some 37), (.mv (.t 0)), none⟩, ⟨(some 38), (.nilchk (.t 37)), none⟩, ⟨(some 39), (.fadd 0 (.t 38)), none⟩, ⟨(some 40), (.fadd 7 (.t 39)), none⟩, ⟨(some 41), (.load false 1 (.t 40)), none⟩, ⟨(some 42), (.bin .add .bad (.t 41) (.c (.d (.i .i64 1)))), none⟩, ⟨(some 43), (.nilchk (.t 37)), none⟩, ⟨(some 44), (.fadd 0 (.t 43)), none⟩, ⟨(some 45), (.fadd 7 (.t 44)), none⟩, ⟨none, (.store 1 (.t 45) (.t 42)), none⟩])
 (.seq (.dreg 0 [⟨⟨(some 46), (.mv (.t 0)), none⟩, 0, false, [], none⟩, ⟨⟨(some 47), (.nilchk (.t 46)), none⟩, 1, false, [], none⟩, ⟨⟨(some 48), (.fadd 0 (.t 47)), none⟩, 2, false, [], none⟩, ⟨⟨(some 49), (.fadd 6 (.t 48)), none⟩, 3, false, [], none⟩, ⟨⟨(some 50), (.load false 1 (.t 49)), none⟩, 4, false, [], none⟩, ⟨⟨(some 51), (.mv (.t 5)), none⟩, 5, false, [], none⟩, ⟨⟨(some 52), (.mv (.t 0)), none⟩, 6, false, [], none⟩, ⟨⟨(some 53), (.nilchk (.t 52)), none⟩, 7, false, [], none⟩, ⟨⟨(some 54), (.fadd 0 (.t 53)), none⟩, 8, false, [], none⟩, ⟨⟨(some 55), (.fadd 6 (.t 54)), none⟩, 9, false, [], none⟩, ⟨⟨(some 56), (.load false 1 (.t 55)), none⟩, 10, false, [], none⟩, ⟨⟨(some 58), (.mv (.t 0)), none⟩, 12, false, [], none⟩, ⟨⟨(some 59), (.nilchk (.t 58)), none⟩, 13, false, [], none⟩, ⟨⟨(some 60), (.fadd 0 (.t 59)), none⟩, 14, false, [], none⟩, ⟨⟨(some 61), (.fadd 7 (.t 60)), none⟩, 15, false, [], none⟩, ⟨⟨(some 62), (.load false 1 (.t 61)), none⟩, 16, false, [], none⟩, ⟨⟨(some 63), (.iaS 16 (.t 50) (.t 51)), none⟩, 17, false, [], none⟩, ⟨⟨(some 64), (.fadd 9 (.t 63)), none⟩, 18, false, [], none⟩, ⟨⟨none, (.store 1 (.t 64) (.c (.d (.i .u8 2)))), none⟩, 19, true, [], none⟩, ⟨⟨(some 57), (.mv (.t 5)), none⟩, 11, false, [], none⟩, ⟨⟨(some 65), (.iaS 16 (.t 56) (.t 57)), none⟩, 20, false, [19], none⟩, ⟨⟨(some 66), (.fadd 11 (.t 65)), none⟩, 21, false, [19], none⟩, ⟨⟨none, (.store 1 (.t 66) (.t 62)), none⟩, 22, true, [], none⟩])
 (.seq (.reg [⟨(some 67), (.mv (.t 0)), none⟩, ⟨(some 68), (.nilchk (.t 67)), none⟩, ⟨(some 69), (.fadd 0 (.t 68)), none⟩, ⟨(some 70), (.fadd 7 (.t 69)), none⟩, ⟨(some 71), (.load false 1 (.t 70)), none⟩, ⟨(some 72), (.fadd 2 (.t 6)), none⟩, ⟨none, (.store 1 (.t 72) (.t 71)), none⟩, ⟨(some 73), (.fadd 4 (.t 6)), none⟩, ⟨none, (.store 1 (.t 73) (.c (.d (.i .u8 2)))), none⟩])
 (.seq (.reg [⟨(some 74), (.load true 5 (.t 6)), none⟩, ⟨none, (.store 5 (.t 4) (.t 74)), none⟩])
 .ret))))))))), false⟩
/-- (*foreman/step.Machine).complete -/
def a24 : AFn := ⟨89, [.cell 4 true 5],
 (.seq (.reg [⟨(some 3), (.box 27 (.t 1)), none⟩, ⟨(some 4), (.alloc 44 [(.d (.i .i64 0)), (.d (.i .i64 0)), (.d (.i .i64 0)), .nilsl, (.d (.i .u8 0))]), none⟩])
 (.seq (.reg [⟨(some 12), (.mv (.t 0)), none⟩, ⟨(some 13), (.load true 9 (.t 3)), none⟩, ⟨(some 14), (.callf 44 [(.t 12), (.t 13)]), none⟩, ⟨(some 11), (.mv (.t 14)), none⟩, ⟨(some 15), (.extr (.t 11) 0), none⟩, ⟨(some 16), (.extr (.t 11) 1), none⟩, ⟨(some 6), (.alloc 44 [(.d (.i .i64 0)), (.d (.i .i64 0)), (.d (.i .i64 0)), .nilsl, (.d (.i .u8 0))]), none⟩, ⟨(some 5), (.mv (.t 15)), none⟩, ⟨none, (.store 5 (.t 6) (.t 16)), none⟩])
 (.seq (.seq (.reg [⟨(some 17), (.fadd 0 (.t 6)), none⟩, ⟨(some 18), (.load false 1 (.t 17)), none⟩, ⟨(some 19), (.bin .neq .bad (.t 18) (.c (.d (.i .i64 0)))), none⟩])
 (.cond (.t 19)
 (.seq (.reg [⟨(some 20), (.load true 5 (.t 6)), none⟩, ⟨none, (.store 5 (.t 4) (.t 20)), none⟩])
 .ret)
 .skip))
 (.seq (.seq (.reg [⟨(some 21), (.mv (.t 0)), none⟩, ⟨(some 22), (.mv (.t 5)), none⟩, ⟨(some 23), (.fadd 3 (.t 3)), none⟩, ⟨(some 24), (.load true 4 (.t 23)), none⟩, ⟨(some 25), (.callf 45 [(.t 21), (.t 22), (.t 24)]), none⟩, ⟨(some 7), (.mv (.t 25)), none⟩])
 (.seq (.reg [⟨(some 26), (.mv (.t 7)), none⟩, ⟨(some 27), (.bin .neq .bad (.t 26) (.c (.d (.i .i64 0)))), none⟩])
 (.cond (.t 27)
 (.seq (.reg [⟨(some 28), (.mv (.t 0)), none⟩, ⟨(some 29), (.mv (.t 5)), none⟩, ⟨(some 30), (.mv (.t 7)), none⟩, ⟨(some 31), (.callf 46 [(.t 28), (.t 29), (.t 30)]), none⟩, ⟨none, (.store 5 (.t 4) (.t 31)), none⟩])
 .ret)
 .skip)))
 (.seq (.reg [⟨(some 32), (.mv (.t 0)), none⟩, ⟨(some 33), (.nilchk (.t 32)), none⟩, ⟨(some 34), (.fadd 0 (.t 33)), none⟩, ⟨(some 35), (.fadd 6 (.t 34)), none⟩, ⟨(some 36), (.load false 1 (.t 35)), none⟩, ⟨(some 37), (.mv (.t 5)), none⟩, ⟨(some 38), (.iaS 16 (.t 36) (.t 37)), none⟩, ⟨(some 39), (.load true 16 (.t 38)), none⟩, ⟨(some 8), (.alloc 64 [(.d (.s [])), (.d (.s [])), (.d (.i .u8 0)), (.d (.i .i64 0)), (.d (.i .i64 0)), (.d (.i .i64 0)), .nilsl, (.d (.i .i64 0)), (.d (.i .i64 0)), (.d (.i .u8 0)), (.d (.i .i64 0)), (.d (.i .i64 0)), (.d (.i .u8 0)), (.d (.i .i64 0)), (.d (.s [])), .nilsl]), none⟩, ⟨none, (.store 16 (.t 8) (.t 39)), none⟩])
 (.seq (.reg [⟨(some 41), (.mv (.t 0)), none⟩, ⟨(some 42), (.fadd 3 (.t 8)), none⟩, ⟨(some 43), (.load false 1 (.t 42)), none⟩, ⟨(some 44), (.mv (.t 5)), none⟩, ⟨(some 45), (.fadd 8 (.t 8)), none⟩, ⟨(some 46), (.load false 1 (.t 45)), none⟩, ⟨(some 47), (.fadd 7 (.t 3)), none⟩, ⟨(some 48), (.load false 1 (.t 47)), none⟩, ⟨(some 49), (.callf 39 [(.t 41), (.t 43), (.t 44), (.t 46), (.t 48)]), none⟩, ⟨(some 40), (.mv (.t 49)), none⟩, ⟨(some 50), (.extr (.t 40) 0), none⟩, ⟨(some 51), (.extr (.t 40) 1), none⟩, ⟨(some 9), (.alloc 36 [(.d (.i .i64 0)), (.d (.i .i64 0)), (.d (.i .i64 0)), (.d (.i .i64 0)), (.d (.i .i64 0)), (.d (.i .i64 0)), .nilsl, (.d (.i .i64 0))]), none⟩, ⟨none, (.store 8 (.t 9) (.t 50)), none⟩, ⟨(some 10), (.mv (.t 51)), none⟩])
 (.seq (.seq (.reg [⟨(some 52), (.mv (.t 10)), none⟩, ⟨(some 53), (.bin .neq .bad (.t 52) (.c (.d (.i .i64 0)))), none⟩])
 (.cond (.t 53)
 (.seq (.reg [⟨(some 54), (.mv (.t 0)), none⟩, ⟨(some 55), (.mv (.t 5)), none⟩, ⟨(some 56), (.mv (.t 10)), none⟩, ⟨(some 57), (.callf 46 [(.t 54), (.t 55), (.t 56)]), none⟩, ⟨none, (.store 5 (.t 4) (.t 57)), none⟩])
 .ret)
 .skip))
 (.seq (.dreg 0 [⟨⟨(some 67), (.fadd 3 (.t 3)), none⟩, 9, false, [], none⟩, ⟨⟨(some 68), (.load true 4 (.t 67)), none⟩, 10, false, [], none⟩, ⟨⟨(some 69), (.callf 47 [(.t 68)]), none⟩, 11, true, [], none⟩, ⟨⟨(some 58), (.fadd 6 (.t 9)), none⟩, 0, false, [], none⟩, ⟨⟨(some 59), (.load false 1 (.t 58)), none⟩, 1, false, [], none⟩, ⟨⟨(some 60), (.mv (.t 5)), none⟩, 2, false, [], none⟩, ⟨⟨(some 70), (.iaS 16 (.t 59) (.t 60)), none⟩, 12, false, [11], none⟩, ⟨⟨(some 71), (.fadd 9 (.t 70)), none⟩, 13, false, [11], none⟩, ⟨⟨none, (.store 1 (.t 71) (.c (.d (.i .u8 3)))), none⟩, 14, true, [], none⟩, ⟨⟨(some 61), (.fadd 6 (.t 9)), none⟩, 3, false, [], none⟩, ⟨⟨(some 62), (.load false 1 (.t 61)), none⟩, 4, false, [], none⟩, ⟨⟨(some 63), (.mv (.t 5)), none⟩, 5, false, [], none⟩, ⟨⟨(some 72), (.iaS 16 (.t 62) (.t 63)), none⟩, 15, false, [14, 11], none⟩, ⟨⟨(some 73), (.fadd 11 (.t 72)), none⟩, 16, false, [14, 11], none⟩, ⟨⟨none, (.store 1 (.t 73) (.c (.d (.i .i64 0)))), none⟩, 17, true, [], none⟩, ⟨⟨(some 64), (.fadd 6 (.t 9)), none⟩, 6, false, [], none⟩, ⟨⟨(some 65), (.load false 1 (.t 64)), none⟩, 7, false, [], none⟩, ⟨⟨(some 66), (.mv (.t 5)), none⟩, 8, false, [], none⟩, ⟨⟨(some 74), (.iaS 16 (.t 65) (.t 66)), none⟩, 18, false, [17, 14, 11], none⟩, ⟨⟨(some 75), (.fadd 12 (.t 74)), none⟩, 19, false, [17, 14, 11], none⟩, ⟨⟨none, (.store 4 (.t 75) (.t 69)), none⟩, 20, true, [], none⟩])
 (.seq (.reg [⟨(some 76), (.mv (.t 0)), none⟩, ⟨(some 77), (.load true 8 (.t 9)), none⟩, ⟨(some 78), (.callf 40 [(.t 76), (.t 77)]), none⟩])
 (.seq (.reg [⟨(some 79), (.mv (.t 0)), none⟩, ⟨(some 80), (.nilchk (.t 79)), none⟩, ⟨(some 81), (.fadd 0 (.t 80)), none⟩, ⟨(some 82), (.fadd 6 (.t 81)), none⟩, ⟨(some 83), (.load false 1 (.t 82)), none⟩, ⟨(some 84), (.mv (.t 5)), none⟩, ⟨(some 85), (.iaS 16 (.t 83) (.t 84)), none⟩, ⟨(some 86), (.fadd 9 (.t 85)), none⟩, ⟨(some 87), (.load false 1 (.t 86)), none⟩, ⟨(some 88), (.build [(.d (.i .i64 0)), (.d (.i .i64 0)), (.d (.i .i64 0)), .nilsl, (.d (.i .u8 0))] [(4, 1, (.t 87))]), none⟩, ⟨none, (.store 5 (.t 4) (.t 88)), none⟩])
 .ret)))))))))), false⟩
/-- (*foreman/step.Machine).fail -/
def a25 : AFn := ⟨20, [.cell 4 true 5],
 (.seq (.reg [⟨(some 3), (.box 27 (.t 1)), none⟩, ⟨(some 4), (.alloc 44 [(.d (.i .i64 0)), (.d (.i .i64 0)), (.d (.i .i64 0)), .nilsl, (.d (.i .u8 0))]), none⟩])
 (.seq (.reg [⟨(some 8), (.mv (.t 0)), none⟩, ⟨(some 9), (.load true 9 (.t 3)), none⟩, ⟨(some 10), (.callf 44 [(.t 8), (.t 9)]), none⟩, ⟨(some 7), (.mv (.t 10)), none⟩, ⟨(some 11), (.extr (.t 7) 0), none⟩, ⟨(some 12), (.extr (.t 7) 1), none⟩, ⟨(some 6), (.alloc 44 [(.d (.i .i64 0)), (.d (.i .i64 0)), (.d (.i .i64 0)), .nilsl, (.d (.i .u8 0))]), none⟩, ⟨(some 5), (.mv (.t 11)), none⟩, ⟨none, (.store 5 (.t 6) (.t 12)), none⟩])
 (.seq (.seq (.reg [⟨(some 13), (.fadd 0 (.t 6)), none⟩, ⟨(some 14), (.load false 1 (.t 13)), none⟩, ⟨(some 15), (.bin .neq .bad (.t 14) (.c (.d (.i .i64 0)))), none⟩])
 (.cond (.t 15)
 (.seq (.reg [⟨(some 16), (.load true 5 (.t 6)), none⟩, ⟨none, (.store 5 (.t 4) (.t 16)), none⟩])
 .ret)
 .skip))
 (.seq (.reg [⟨(some 17), (.mv (.t 0)), none⟩, ⟨(some 18), (.mv (.t 5)), none⟩, ⟨(some 19), (.callf 46 [(.t 17), (.t 18), (.c (.d (.i .i64 0)))]), none⟩, ⟨none, (.store 5 (.t 4) (.t 19)), none⟩])
 .ret)))), false⟩
/-- foreman/snap.Copy -/
def a27 : AFn := ⟨37, [.cell 2 true 8],
 (.seq (.reg [⟨(some 1), (.box 36 (.t 0)), none⟩, ⟨(some 2), (.alloc 36 [(.d (.i .i64 0)), (.d (.i .i64 0)), (.d (.i .i64 0)), (.d (.i .i64 0)), (.d (.i .i64 0)), (.d (.i .i64 0)), .nilsl, (.d (.i .i64 0))]), none⟩])
 (.seq (.reg [⟨(some 5), (.fadd 6 (.t 1)), none⟩, ⟨(some 6), (.load false 1 (.t 5)), none⟩, ⟨(some 7), (.clone 53 64 16 184 true (.t 6)), none⟩, ⟨(some 8), (.fadd 6 (.t 1)), none⟩, ⟨none, (.store 1 (.t 8) (.t 7)), none⟩])
 (.seq (.seq (.reg [⟨(some 9), (.fadd 6 (.t 1)), none⟩, ⟨(some 10), (.load false 1 (.t 9)), none⟩, ⟨(some 11), (.len 1 (.t 10)), none⟩, ⟨(some 12), (.mv (.c (.d (.i .i64 0)))), none⟩])
 (.blk 0 (.loop (.seq (.reg [⟨(some 13), (.bin .lss .bad (.t 12) (.t 11)), none⟩])
 (.seq (.cond (.t 13)
 .skip
 (.exit 0))
 (.seq (.blk 1 (.seq (.reg [⟨(some 14), (.mv (.t 12)), none⟩, ⟨(some 3), (.mv (.t 14)), none⟩])
 (.seq (.reg [⟨(some 15), (.fadd 6 (.t 1)), none⟩, ⟨(some 16), (.load false 1 (.t 15)), none⟩, ⟨(some 17), (.mv (.t 3)), none⟩, ⟨(some 18), (.iaS 16 (.t 16) (.t 17)), none⟩, ⟨(some 4), (.mv (.t 18)), none⟩])
 (.dreg 0 [⟨⟨(some 21), (.mv (.t 4)), none⟩, 2, false, [], none⟩, ⟨⟨(some 22), (.nilchk (.t 21)), none⟩, 3, false, [], none⟩, ⟨⟨(some 23), (.fadd 6 (.t 22)), none⟩, 4, false, [], none⟩, ⟨⟨(some 24), (.load false 1 (.t 23)), none⟩, 5, false, [], none⟩, ⟨⟨(some 25), (.clone 54 3 1 8 false (.t 24)), none⟩, 6, true, [], none⟩, ⟨⟨(some 26), (.mv (.t 4)), none⟩, 7, false, [], none⟩, ⟨⟨(some 27), (.nilchk (.t 26)), none⟩, 8, false, [], none⟩, ⟨⟨(some 28), (.fadd 12 (.t 27)), none⟩, 9, false, [], none⟩, ⟨⟨(some 29), (.load true 4 (.t 28)), none⟩, 10, false, [], none⟩, ⟨⟨(some 30), (.callf 47 [(.t 29)]), none⟩, 11, true, [], none⟩, ⟨⟨(some 19), (.mv (.t 4)), none⟩, 0, false, [], none⟩, ⟨⟨(some 31), (.nilchk (.t 19)), none⟩, 12, false, [11, 6], none⟩, ⟨⟨(some 32), (.fadd 6 (.t 31)), none⟩, 13, false, [11, 6], none⟩, ⟨⟨none, (.store 1 (.t 32) (.t 25)), none⟩, 14, true, [], none⟩, ⟨⟨(some 20), (.mv (.t 4)), none⟩, 1, false, [], none⟩, ⟨⟨(some 33), (.nilchk (.t 20)), none⟩, 15, false, [14, 11, 6], none⟩, ⟨⟨(some 34), (.fadd 12 (.t 33)), none⟩, 16, false, [14, 11, 6], none⟩, ⟨⟨none, (.store 4 (.t 34) (.t 30)), none⟩, 17, true, [], none⟩]))))
 (.reg [⟨(some 35), (.bin .add .bad (.t 12) (.c (.d (.i .i64 1)))), none⟩, ⟨(some 12), (.mv (.t 35)), none⟩])))))))
 (.seq (.reg [⟨(some 36), (.load true 8 (.t 1)), none⟩, ⟨none, (.store 8 (.t 2) (.t 36)), none⟩])
 .ret)))), false⟩
/-- (*foreman/order.Order).List -/
def a28 : AFn := ⟨10, [.tmp 2],
 (.seq (.reg [⟨(some 2), (.mv (.c .nilsl)), none⟩])
 (.seq (.seq (.reg [⟨(some 3), (.mv (.t 0)), none⟩, ⟨(some 4), (.callf 55 [(.t 3)]), none⟩])
 (.cond (.t 4)
 (.seq (.reg [⟨(some 2), (.mv (.c .nilsl)), none⟩])
 .ret)
 .skip))
 (.seq (.reg [⟨(some 5), (.mv (.t 0)), none⟩, ⟨(some 6), (.nilchk (.t 5)), none⟩, ⟨(some 7), (.fadd 2 (.t 6)), none⟩, ⟨(some 8), (.load false 1 (.t 7)), none⟩, ⟨(some 9), (.clone 54 3 1 8 false (.t 8)), none⟩, ⟨(some 2), (.mv (.t 9)), none⟩])
 .ret))), false⟩
/-- (*foreman/order.Order).Copy -/
def a29 : AFn := ⟨22, [.tmp 2],
 (.seq (.reg [⟨(some 2), (.mv (.c (.d .nilp))), none⟩])
 (.seq (.seq (.reg [⟨(some 3), (.mv (.t 0)), none⟩, ⟨(some 4), (.callf 55 [(.t 3)]), none⟩])
 (.cond (.t 4)
 (.seq (.reg [⟨(some 2), (.mv (.c (.d .nilp))), none⟩])
 .ret)
 .skip))
 (.seq (.dreg 1 [⟨⟨(some 5), (.mv (.t 0)), none⟩, 0, false, [], none⟩, ⟨⟨(some 6), (.nilchk (.t 5)), none⟩, 1, false, [], none⟩, ⟨⟨(some 7), (.fadd 0 (.t 6)), none⟩, 2, false, [], none⟩, ⟨⟨(some 8), (.load false 1 (.t 7)), none⟩, 3, false, [], none⟩, ⟨⟨(some 9), (.callf 56 [(.t 8)]), none⟩, 4, true, [], none⟩, ⟨⟨(some 10), (.mv (.t 0)), none⟩, 5, false, [], none⟩, ⟨⟨(some 11), (.nilchk (.t 10)), none⟩, 6, false, [], none⟩, ⟨⟨(some 12), (.fadd 1 (.t 11)), none⟩, 7, false, [], none⟩, ⟨⟨(some 13), (.load false 1 (.t 12)), none⟩, 8, false, [], none⟩, ⟨⟨(some 14), (.clone 54 3 1 8 true (.t 13)), none⟩, 9, true, [], none⟩, ⟨⟨(some 15), (.mv (.t 0)), none⟩, 10, false, [], none⟩, ⟨⟨(some 16), (.nilchk (.t 15)), none⟩, 11, false, [], none⟩, ⟨⟨(some 17), (.fadd 2 (.t 16)), none⟩, 12, false, [], none⟩, ⟨⟨(some 18), (.load false 1 (.t 17)), none⟩, 13, false, [], none⟩, ⟨⟨(some 19), (.clone 54 3 1 8 true (.t 18)), none⟩, 14, true, [], none⟩, ⟨⟨(some 20), (.build [(.d .nilp), .nilsl, .nilsl] [(0, 1, (.t 9)), (1, 1, (.t 14)), (2, 1, (.t 19))]), none⟩, 15, false, [14, 9, 4], none⟩, ⟨⟨(some 21), (.box 108 (.t 20)), none⟩, 16, false, [], (some 0)⟩, ⟨⟨(some 2), (.mv (.t 21)), none⟩, 17, false, [14, 9, 4], none⟩])
 .ret))), true⟩
/-- foreman/flow.Wrong -/
def a30 : AFn := ⟨80, [.tmp 2],
 (.seq (.reg [⟨(some 1), (.box 36 (.t 0)), none⟩, ⟨(some 2), (.mv (.c (.d (.i .i64 0)))), none⟩])
 (.seq (.seq (.reg [⟨(some 8), (.load true 8 (.t 1)), none⟩, ⟨(some 9), (.callf 57 [(.t 8)]), none⟩, ⟨(some 10), (.un .not (.t 9)), none⟩])
 (.cond (.t 10)
 (.seq (.reg [⟨(some 2), (.mv (.c (.d (.i .i64 1)))), none⟩])
 .ret)
 .skip))
 (.seq (.dreg 2 [⟨⟨(some 11), (.load true 8 (.t 1)), none⟩, 0, false, [], none⟩, ⟨⟨(some 12), (.fadd 6 (.t 1)), none⟩, 1, false, [], none⟩, ⟨⟨(some 13), (.load false 1 (.t 12)), none⟩, 2, false, [], none⟩, ⟨⟨(some 14), (.len 1 (.t 13)), none⟩, 3, false, [], none⟩, ⟨⟨(some 15), (.mksl 48 1 24 [.nilsl] (.t 14) (.t 14)), none⟩, 4, false, [], (some 0)⟩, ⟨⟨(some 16), (.build [(.d (.i .i64 0)), (.d (.i .i64 0)), (.d (.i .i64 0)), (.d (.i .i64 0)), (.d (.i .i64 0)), (.d (.i .i64 0)), .nilsl, (.d (.i .i64 0)), .nilsl] [(0, 8, (.t 11)), (8, 1, (.t 15))]), none⟩, 5, false, [], none⟩, ⟨⟨(some 17), (.box 114 (.t 16)), none⟩, 6, false, [], (some 1)⟩, ⟨⟨(some 3), (.mv (.t 17)), none⟩, 7, false, [], none⟩])
 (.seq (.seq (.reg [⟨(some 18), (.mv (.t 3)), none⟩, ⟨(some 19), (.callf 58 [(.t 18)]), none⟩, ⟨(some 20), (.un .not (.t 19)), none⟩])
 (.cond (.t 20)
 (.seq (.reg [⟨(some 2), (.mv (.c (.d (.i .i64 1)))), none⟩])
 .ret)
 .skip))
 (.seq (.seq (.reg [⟨(some 21), (.fadd 6 (.t 1)), none⟩, ⟨(some 22), (.load false 1 (.t 21)), none⟩, ⟨(some 23), (.len 1 (.t 22)), none⟩, ⟨(some 24), (.mv (.c (.d (.i .i64 0)))), none⟩])
 (.blk 0 (.loop (.seq (.reg [⟨(some 25), (.bin .lss .bad (.t 24) (.t 23)), none⟩])
 (.seq (.cond (.t 25)
 .skip
 (.exit 0))
 (.seq (.blk 1 (.seq (.reg [⟨(some 26), (.mv (.t 24)), none⟩, ⟨(some 27), (.iaS 16 (.t 22) (.t 24)), none⟩, ⟨(some 28), (.load true 16 (.t 27)), none⟩, ⟨(some 5), (.alloc 64 [(.d (.s [])), (.d (.s [])), (.d (.i .u8 0)), (.d (.i .i64 0)), (.d (.i .i64 0)), (.d (.i .i64 0)), .nilsl, (.d (.i .i64 0)), (.d (.i .i64 0)), (.d (.i .u8 0)), (.d (.i .i64 0)), (.d (.i .i64 0)), (.d (.i .u8 0)), (.d (.i .i64 0)), (.d (.s [])), .nilsl]), none⟩, ⟨(some 4), (.mv (.t 26)), none⟩, ⟨none, (.store 16 (.t 5) (.t 28)), none⟩])
 (.seq (.reg [⟨(some 29), (.fadd 4 (.t 5)), none⟩, ⟨(some 30), (.load false 1 (.t 29)), none⟩, ⟨(some 31), (.bin .geq .bad (.t 30) (.c (.d (.i .i64 0)))), none⟩])
 (.cond (.t 31)
 (.dreg 1 [⟨⟨(some 38), (.mv (.t 3)), none⟩, 6, false, [], none⟩, ⟨⟨(some 39), (.nilchk (.t 38)), none⟩, 7, false, [], none⟩, ⟨⟨(some 40), (.fadd 8 (.t 39)), none⟩, 8, false, [], none⟩, ⟨⟨(some 41), (.load false 1 (.t 40)), none⟩, 9, false, [], none⟩, ⟨⟨(some 42), (.fadd 4 (.t 5)), none⟩, 10, false, [], none⟩, ⟨⟨(some 43), (.load false 1 (.t 42)), none⟩, 11, false, [], none⟩, ⟨⟨(some 44), (.iaS 1 (.t 41) (.t 43)), none⟩, 12, false, [], none⟩, ⟨⟨(some 45), (.load false 1 (.t 44)), none⟩, 13, false, [], none⟩, ⟨⟨(some 46), (.mv (.t 4)), none⟩, 14, false, [], none⟩, ⟨⟨(some 47), (.bsl 3 1 1 [(.d (.i .i64 0))] [(0, 1, (.t 46))]), none⟩, 15, false, [], (some 0)⟩, ⟨⟨(some 48), (.app 3 1 8 false (.t 45) (.t 47)), none⟩, 16, true, [], none⟩, ⟨⟨(some 32), (.mv (.t 3)), none⟩, 0, false, [], none⟩, ⟨⟨(some 33), (.nilchk (.t 32)), none⟩, 1, false, [], none⟩, ⟨⟨(some 34), (.fadd 8 (.t 33)), none⟩, 2, false, [], none⟩, ⟨⟨(some 35), (.load false 1 (.t 34)), none⟩, 3, false, [], none⟩, ⟨⟨(some 36), (.fadd 4 (.t 5)), none⟩, 4, false, [], none⟩, ⟨⟨(some 37), (.load false 1 (.t 36)), none⟩, 5, false, [], none⟩, ⟨⟨(some 49), (.iaS 1 (.t 35) (.t 37)), none⟩, 17, false, [16], none⟩, ⟨⟨none, (.store 1 (.t 49) (.t 48)), none⟩, 18, true, [], none⟩])
 .skip))))
 (.reg [⟨(some 50), (.bin .add .bad (.t 24) (.c (.d (.i .i64 1)))), none⟩, ⟨(some 24), (.mv (.t 50)), none⟩])))))))
 (.seq (.seq (.reg [⟨(some 51), (.mv (.t 3)), none⟩, ⟨(some 52), (.mkfn (.func 59) [(.t 51)] []), none⟩, ⟨(some 53), (.mv (.t 3)), none⟩, ⟨(some 54), (.mkfn (.func 60) [(.t 53)] []), none⟩, ⟨(some 55), (.mv (.t 3)), none⟩, ⟨(some 56), (.mkfn (.func 61) [(.t 55)] []), none⟩, ⟨(some 57), (.mv (.t 3)), none⟩, ⟨(some 58), (.mkfn (.func 62) [(.t 57)] []), none⟩, ⟨(some 59), (.mv (.t 3)), none⟩, ⟨(some 60), (.mkfn (.func 63) [(.t 59)] []), none⟩, ⟨(some 61), (.mv (.t 3)), none⟩, ⟨(some 62), (.mkfn (.func 64) [(.t 61)] []), none⟩, ⟨(some 63), (.mv (.t 3)), none⟩, ⟨(some 64), (.mkfn (.func 65) [(.t 63)] []), none⟩, ⟨(some 65), (.mv (.t 3)), none⟩, ⟨(some 66), (.mkfn (.func 66) [(.t 65)] []), none⟩, ⟨(some 67), (.mv (.t 3)), none⟩, ⟨(some 68), (.mkfn (.func 67) [(.t 67)] []), none⟩, ⟨(some 69), (.build [(.d .nilf), (.d .nilf), (.d .nilf), (.d .nilf), (.d .nilf), (.d .nilf), (.d .nilf), (.d .nilf), (.d .nilf)] [(0, 1, (.t 52)), (1, 1, (.t 54)), (2, 1, (.t 56)), (3, 1, (.t 58)), (4, 1, (.t 60)), (5, 1, (.t 62)), (6, 1, (.t 64)), (7, 1, (.t 66)), (8, 1, (.t 68))]), none⟩, ⟨(some 70), (.mv (.c (.d (.i .i64 0)))), none⟩])
 (.blk 2 (.loop (.seq (.reg [⟨(some 71), (.bin .lss .bad (.t 70) (.c (.d (.i .i64 9)))), none⟩])
 (.seq (.cond (.t 71)
 .skip
 (.exit 2))
 (.seq (.blk 3 (.seq (.reg [⟨(some 72), (.mv (.t 70)), none⟩, ⟨(some 73), (.ixA 9 1 false 1 (.t 69) (.t 70)), none⟩, ⟨(some 6), (.mv (.t 72)), none⟩, ⟨(some 7), (.mv (.t 73)), none⟩])
 (.seq (.reg [⟨(some 74), (.mv (.t 7)), none⟩, ⟨(some 75), (.callv (.t 74) []), none⟩, ⟨(some 76), (.un .not (.t 75)), none⟩])
 (.cond (.t 76)
 (.seq (.reg [⟨(some 77), (.mv (.t 6)), none⟩, ⟨(some 78), (.bin .add .bad (.c (.d (.i .i64 2))) (.t 77)), none⟩, ⟨(some 2), (.mv (.t 78)), none⟩])
 .ret)
 .skip))))
 (.reg [⟨(some 79), (.bin .add .bad (.t 70) (.c (.d (.i .i64 1)))), none⟩, ⟨(some 70), (.mv (.t 79)), none⟩])))))))
 (.seq (.reg [⟨(some 2), (.mv (.c (.d (.i .i64 0)))), none⟩])
 .ret))))))), false⟩
/-- foreman/build.Order -/
def a31 : AFn := ⟨21, [.tmp 2, .tmp 3],
 (.seq (.reg [⟨(some 1), (.box 36 (.t 0)), none⟩, ⟨(some 2), (.mv (.c (.d .nilp))), none⟩, ⟨(some 3), (.mv (.c (.d (.i .i64 0)))), none⟩])
 (.seq (.reg [⟨(some 8), (.callf 68 [(.c (.d (.i .i64 0)))]), none⟩, ⟨(some 7), (.mv (.t 8)), none⟩, ⟨(some 9), (.extr (.t 7) 0), none⟩, ⟨(some 10), (.extr (.t 7) 1), none⟩, ⟨(some 4), (.mv (.t 9)), none⟩, ⟨(some 5), (.mv (.t 10)), none⟩])
 (.seq (.seq (.reg [⟨(some 11), (.mv (.t 5)), none⟩, ⟨(some 12), (.bin .neq .bad (.t 11) (.c (.d (.i .i64 0)))), none⟩])
 (.cond (.t 12)
 (.seq (.reg [⟨(some 13), (.mv (.t 5)), none⟩, ⟨(some 2), (.mv (.c (.d .nilp))), none⟩, ⟨(some 3), (.mv (.t 13)), none⟩])
 .ret)
 .skip))
 (.seq (.seq (.reg [⟨(some 14), (.mv (.t 4)), none⟩, ⟨(some 15), (.load true 8 (.t 1)), none⟩, ⟨(some 16), (.callf 69 [(.t 14), (.t 15)]), none⟩, ⟨(some 6), (.mv (.t 16)), none⟩])
 (.seq (.reg [⟨(some 17), (.mv (.t 6)), none⟩, ⟨(some 18), (.bin .neq .bad (.t 17) (.c (.d (.i .i64 0)))), none⟩])
 (.cond (.t 18)
 (.seq (.reg [⟨(some 19), (.mv (.t 6)), none⟩, ⟨(some 2), (.mv (.c (.d .nilp))), none⟩, ⟨(some 3), (.mv (.t 19)), none⟩])
 .ret)
 .skip)))
 (.seq (.reg [⟨(some 20), (.mv (.t 4)), none⟩, ⟨(some 2), (.mv (.t 20)), none⟩, ⟨(some 3), (.mv (.c (.d (.i .i64 0)))), none⟩])
 .ret))))), true⟩
/-- foreman/foremanlow.parts -/
def a32 : AFn := ⟨28, [.tmp 4],
 (.seq (.reg [⟨(some 2), (.box 24 (.t 0)), none⟩, ⟨(some 4), (.mv (.c (.d (.i .i64 0)))), none⟩])
 (.seq (.seq (.reg [⟨(some 8), (.mv (.t 1)), none⟩, ⟨(some 9), (.bin .eql .bad (.t 8) (.c (.d (.i .i64 0)))), none⟩])
 (.cond (.t 9)
 (.seq (.reg [⟨(some 4), (.mv (.c (.d (.i .i64 1000)))), none⟩])
 .ret)
 .skip))
 (.seq (.reg [⟨(some 5), (.mv (.c (.d (.i .i64 1)))), none⟩])
 (.seq (.seq (.reg [⟨(some 10), (.fadd 3 (.t 2)), none⟩, ⟨(some 11), (.load false 1 (.t 10)), none⟩, ⟨(some 12), (.len 1 (.t 11)), none⟩, ⟨(some 13), (.mv (.c (.d (.i .i64 0)))), none⟩])
 (.blk 0 (.loop (.seq (.reg [⟨(some 14), (.bin .lss .bad (.t 13) (.t 12)), none⟩])
 (.seq (.cond (.t 14)
 .skip
 (.exit 0))
 (.seq (.blk 1 (.seq (.reg [⟨(some 15), (.iaS 4 (.t 11) (.t 13)), none⟩, ⟨(some 16), (.load true 4 (.t 15)), none⟩, ⟨(some 7), (.alloc 24 [(.d (.i .u8 0)), (.d (.i .i64 0)), (.d (.s [])), .nilsl]), none⟩, ⟨none, (.store 4 (.t 7) (.t 16)), none⟩])
 (.seq (.reg [⟨(some 17), (.mv (.t 5)), none⟩, ⟨(some 18), (.load true 4 (.t 7)), none⟩, ⟨(some 19), (.mv (.t 1)), none⟩, ⟨(some 20), (.bin .sub .bad (.t 19) (.c (.d (.i .i64 1)))), none⟩, ⟨(some 21), (.callf 32 [(.t 18), (.t 20)]), none⟩, ⟨(some 22), (.bin .add .bad (.t 17) (.t 21)), none⟩, ⟨(some 5), (.mv (.t 22)), none⟩])
 (.seq (.reg [⟨(some 23), (.mv (.t 5)), none⟩, ⟨(some 24), (.bin .gtr .bad (.t 23) (.c (.d (.i .i64 1000)))), none⟩])
 (.cond (.t 24)
 (.seq (.reg [⟨(some 25), (.mv (.t 5)), none⟩, ⟨(some 4), (.mv (.t 25)), none⟩])
 .ret)
 .skip)))))
 (.reg [⟨(some 26), (.bin .add .bad (.t 13) (.c (.d (.i .i64 1)))), none⟩, ⟨(some 13), (.mv (.t 26)), none⟩])))))))
 (.seq (.reg [⟨(some 27), (.mv (.t 5)), none⟩, ⟨(some 4), (.mv (.t 27)), none⟩])
 .ret))))), false⟩
/-- foreman/op.of -/
def a33 : AFn := ⟨9, [.tmp 2],
 (.seq (.reg [⟨(some 2), (.mv (.c (.d (.i .u8 0)))), none⟩])
 (.seq (.seq (.reg [⟨(some 3), (.mv (.t 0)), none⟩, ⟨(some 4), (.cvi .i64 (.t 3)), none⟩, ⟨(some 5), (.bin .geq .bad (.t 4) (.c (.d (.i .i64 6)))), none⟩])
 (.cond (.t 5)
 (.seq (.reg [⟨(some 2), (.mv (.c (.d (.i .u8 0)))), none⟩])
 .ret)
 .skip))
 (.seq (.reg [⟨(some 6), (.mv (.t 0)), none⟩, ⟨(some 7), (.iaA 6 1 (.c (.glob 0 0)) (.t 6)), none⟩, ⟨(some 8), (.load false 1 (.t 7)), none⟩, ⟨(some 2), (.mv (.t 8)), none⟩])
 .ret))), false⟩
/-- foreman/op.either -/
def a34 : AFn := ⟨10, [.tmp 6],
 (.seq (.reg [⟨(some 6), (.mv (.c (.d (.b false)))), none⟩])
 (.seq (.seq (.reg [⟨(some 7), (.mv (.t 0)), none⟩])
 (.cond (.t 7)
 (.seq (.reg [⟨(some 8), (.mv (.t 1)), none⟩, ⟨(some 6), (.mv (.t 8)), none⟩])
 .ret)
 .skip))
 (.seq (.reg [⟨(some 9), (.mv (.t 2)), none⟩, ⟨(some 6), (.mv (.t 9)), none⟩])
 .ret))), false⟩
/-- foreman/frag.Right -/
def a35 : AFn := ⟨11, [.tmp 2],
 (.seq (.reg [⟨(some 2), (.mv (.c (.d (.b false)))), none⟩])
 (.seq (.reg [⟨(some 3), (.mv (.t 0)), none⟩, ⟨(some 4), (.len 1 (.t 3)), none⟩, ⟨(some 5), (.bin .leq .bad (.t 4) (.c (.d (.i .i64 40)))), none⟩, ⟨(some 6), (.mv (.t 5)), none⟩, ⟨(some 7), (.mv (.t 0)), (some (6, true))⟩, ⟨(some 8), (.callf 70 [(.t 7), (.c (.d (.fn (.func 71) [] [])))]), (some (6, true))⟩, ⟨(some 9), (.un .not (.t 8)), (some (6, true))⟩, ⟨(some 10), (.pick (.t 6) (.t 9) (.c (.d (.b false)))), none⟩, ⟨(some 2), (.mv (.t 10)), none⟩])
 .ret)), false⟩
/-- foreman/op.ID -/
def a36 : AFn := ⟨18, [.tmp 2],
 (.seq (.reg [⟨(some 2), (.mv (.c (.d (.b false)))), none⟩])
 (.seq (.reg [⟨(some 3), (.mv (.c (.d (.fn (.func 73) [] [])))), none⟩])
 (.seq (.reg [⟨(some 4), (.mv (.t 0)), none⟩, ⟨(some 5), (.len 0 (.t 4)), none⟩, ⟨(some 6), (.bin .geq .bad (.t 5) (.c (.d (.i .i64 1)))), none⟩, ⟨(some 7), (.mv (.t 6)), none⟩, ⟨(some 8), (.mv (.t 0)), (some (7, true))⟩, ⟨(some 9), (.len 0 (.t 8)), (some (7, true))⟩, ⟨(some 10), (.bin .leq .bad (.t 9) (.c (.d (.i .i64 400)))), (some (7, true))⟩, ⟨(some 11), (.pick (.t 7) (.t 10) (.c (.d (.b false)))), none⟩, ⟨(some 12), (.mv (.t 11)), none⟩, ⟨(some 13), (.mv (.t 0)), (some (12, true))⟩, ⟨(some 14), (.mv (.t 3)), (some (12, true))⟩, ⟨(some 15), (.callf 74 [(.t 13), (.t 14)]), (some (12, true))⟩, ⟨(some 16), (.un .not (.t 15)), (some (12, true))⟩, ⟨(some 17), (.pick (.t 12) (.t 16) (.c (.d (.b false)))), none⟩, ⟨(some 2), (.mv (.t 17)), none⟩])
 .ret))), false⟩
/-- foreman/value.Right -/
def a37 : AFn := ⟨7, [.tmp 2],
 (.seq (.reg [⟨(some 1), (.box 24 (.t 0)), none⟩, ⟨(some 2), (.mv (.c (.d (.b false)))), none⟩])
 (.seq (.reg [⟨(some 3), (.build [(.d (.i .i64 0))] [(0, 1, (.c (.d (.i .i64 200))))]), none⟩, ⟨(some 4), (.box 125 (.t 3)), none⟩, ⟨(some 5), (.load true 4 (.t 1)), none⟩, ⟨(some 6), (.callf 75 [(.t 4), (.t 5), (.c (.d (.i .i64 6)))]), none⟩, ⟨(some 2), (.mv (.t 6)), none⟩])
 .ret)), false⟩
/-- foreman/value.Same -/
def a38 : AFn := ⟨31, [.tmp 4],
 (.seq (.reg [⟨(some 2), (.box 24 (.t 0)), none⟩, ⟨(some 3), (.box 24 (.t 1)), none⟩, ⟨(some 4), (.mv (.c (.d (.b false)))), none⟩])
 (.seq (.reg [⟨(some 5), (.fadd 0 (.t 2)), none⟩, ⟨(some 6), (.load false 1 (.t 5)), none⟩, ⟨(some 7), (.fadd 0 (.t 3)), none⟩, ⟨(some 8), (.load false 1 (.t 7)), none⟩, ⟨(some 9), (.bin .eql .bad (.t 6) (.t 8)), none⟩, ⟨(some 10), (.mv (.t 9)), none⟩, ⟨(some 11), (.fadd 1 (.t 2)), (some (10, true))⟩, ⟨(some 12), (.load false 1 (.t 11)), (some (10, true))⟩, ⟨(some 13), (.fadd 1 (.t 3)), (some (10, true))⟩, ⟨(some 14), (.load false 1 (.t 13)), (some (10, true))⟩, ⟨(some 15), (.bin .eql .bad (.t 12) (.t 14)), (some (10, true))⟩, ⟨(some 16), (.pick (.t 10) (.t 15) (.c (.d (.b false)))), none⟩, ⟨(some 17), (.mv (.t 16)), none⟩, ⟨(some 18), (.fadd 2 (.t 2)), (some (17, true))⟩, ⟨(some 19), (.load false 1 (.t 18)), (some (17, true))⟩, ⟨(some 20), (.fadd 2 (.t 3)), (some (17, true))⟩, ⟨(some 21), (.load false 1 (.t 20)), (some (17, true))⟩, ⟨(some 22), (.bin .eql .bad (.t 19) (.t 21)), (some (17, true))⟩, ⟨(some 23), (.pick (.t 17) (.t 22) (.c (.d (.b false)))), none⟩, ⟨(some 24), (.mv (.t 23)), none⟩, ⟨(some 25), (.fadd 3 (.t 2)), (some (24, true))⟩, ⟨(some 26), (.load false 1 (.t 25)), (some (24, true))⟩, ⟨(some 27), (.fadd 3 (.t 3)), (some (24, true))⟩, ⟨(some 28), (.load false 1 (.t 27)), (some (24, true))⟩, ⟨(some 29), (.callf 76 [(.t 26), (.t 28), (.c (.d (.fn (.func 38) [] [])))]), (some (24, true))⟩, ⟨(some 30), (.pick (.t 24) (.t 29) (.c (.d (.b false)))), none⟩, ⟨(some 4), (.mv (.t 30)), none⟩])
 .ret)), false⟩
/-- (*foreman/step.Machine).grown -/
def a39 : AFn := ⟨66, [.cell 10 true 8, .tmp 11],
 (.seq (.reg [⟨(some 10), (.alloc 36 [(.d (.i .i64 0)), (.d (.i .i64 0)), (.d (.i .i64 0)), (.d (.i .i64 0)), (.d (.i .i64 0)), (.d (.i .i64 0)), .nilsl, (.d (.i .i64 0))]), none⟩, ⟨(some 11), (.mv (.c (.d (.i .i64 0)))), none⟩])
 (.seq (.seq (.dreg 0 [⟨⟨(some 15), (.mv (.t 0)), none⟩, 0, false, [], none⟩, ⟨⟨(some 16), (.nilchk (.t 15)), none⟩, 1, false, [], none⟩, ⟨⟨(some 17), (.fadd 0 (.t 16)), none⟩, 2, false, [], none⟩, ⟨⟨(some 18), (.fadd 0 (.t 17)), none⟩, 3, false, [], none⟩, ⟨⟨(some 19), (.load true 5 (.t 18)), none⟩, 4, false, [], none⟩, ⟨⟨(some 20), (.mv (.t 0)), none⟩, 5, false, [], none⟩, ⟨⟨(some 21), (.nilchk (.t 20)), none⟩, 6, false, [], none⟩, ⟨⟨(some 22), (.fadd 0 (.t 21)), none⟩, 7, false, [], none⟩, ⟨⟨(some 23), (.fadd 6 (.t 22)), none⟩, 8, false, [], none⟩, ⟨⟨(some 24), (.load false 1 (.t 23)), none⟩, 9, false, [], none⟩, ⟨⟨(some 25), (.mv (.t 2)), none⟩, 10, false, [], none⟩, ⟨⟨(some 26), (.mv (.t 3)), none⟩, 11, false, [], none⟩, ⟨⟨(some 27), (.mv (.t 4)), none⟩, 12, false, [], none⟩, ⟨⟨(some 28), (.callf 77 [(.t 19), (.t 24), (.t 25), (.t 26), (.t 27)]), none⟩, 13, true, [], none⟩, ⟨⟨(some 12), (.mv (.t 28)), none⟩, 14, false, [13], none⟩])
 (.seq (.reg [⟨(some 29), (.mv (.t 12)), none⟩, ⟨(some 30), (.bin .neq .bad (.t 29) (.c (.d (.i .i64 0)))), none⟩])
 (.cond (.t 30)
 (.seq (.reg [⟨(some 31), (.mv (.t 0)), none⟩, ⟨(some 32), (.nilchk (.t 31)), none⟩, ⟨(some 33), (.fadd 0 (.t 32)), none⟩, ⟨(some 34), (.load true 8 (.t 33)), none⟩, ⟨(some 35), (.mv (.t 12)), none⟩, ⟨none, (.store 8 (.t 10) (.t 34)), none⟩, ⟨(some 11), (.mv (.t 35)), none⟩])
 .ret)
 .skip)))
 (.seq (.reg [⟨(some 37), (.mv (.t 0)), none⟩, ⟨(some 38), (.nilchk (.t 37)), none⟩, ⟨(some 39), (.fadd 0 (.t 38)), none⟩, ⟨(some 40), (.load true 8 (.t 39)), none⟩, ⟨(some 41), (.mv (.t 1)), none⟩, ⟨(some 42), (.mv (.t 2)), none⟩, ⟨(some 43), (.mv (.t 4)), none⟩, ⟨(some 44), (.callf 78 [(.t 40), (.t 41), (.t 42), (.t 43)]), none⟩, ⟨(some 36), (.mv (.t 44)), none⟩, ⟨(some 45), (.extr (.t 36) 0), none⟩, ⟨(some 46), (.extr (.t 36) 1), none⟩, ⟨(some 13), (.mv (.t 45)), none⟩, ⟨(some 14), (.mv (.t 46)), none⟩])
 (.seq (.seq (.reg [⟨(some 47), (.mv (.t 14)), none⟩, ⟨(some 48), (.bin .neq .bad (.t 47) (.c (.d (.i .i64 0)))), none⟩])
 (.cond (.t 48)
 (.seq (.reg [⟨(some 49), (.mv (.t 0)), none⟩, ⟨(some 50), (.nilchk (.t 49)), none⟩, ⟨(some 51), (.fadd 0 (.t 50)), none⟩, ⟨(some 52), (.load true 8 (.t 51)), none⟩, ⟨(some 53), (.mv (.t 14)), none⟩, ⟨none, (.store 8 (.t 10) (.t 52)), none⟩, ⟨(some 11), (.mv (.t 53)), none⟩])
 .ret)
 .skip))
 (.seq (.dreg 0 [⟨⟨(some 54), (.mv (.t 0)), none⟩, 0, false, [], none⟩, ⟨⟨(some 55), (.nilchk (.t 54)), none⟩, 1, false, [], none⟩, ⟨⟨(some 56), (.fadd 8 (.t 55)), none⟩, 2, false, [], none⟩, ⟨⟨(some 57), (.load false 1 (.t 56)), none⟩, 3, false, [], none⟩, ⟨⟨(some 58), (.mv (.t 0)), none⟩, 4, false, [], none⟩, ⟨⟨(some 59), (.nilchk (.t 58)), none⟩, 5, false, [], none⟩, ⟨⟨(some 60), (.fadd 0 (.t 59)), none⟩, 6, false, [], none⟩, ⟨⟨(some 61), (.load true 8 (.t 60)), none⟩, 7, false, [], none⟩, ⟨⟨(some 62), (.mv (.t 13)), none⟩, 8, false, [], none⟩, ⟨⟨(some 63), (.callf 79 [(.t 57), (.t 61), (.t 62)]), none⟩, 9, true, [], none⟩, ⟨⟨(some 64), (.extr (.t 63) 0), none⟩, 10, false, [9], none⟩, ⟨⟨(some 65), (.extr (.t 63) 1), none⟩, 11, false, [9], none⟩, ⟨⟨none, (.store 8 (.t 10) (.t 64)), none⟩, 12, true, [], none⟩, ⟨⟨(some 11), (.mv (.t 65)), none⟩, 13, false, [12, 9], none⟩])
 .ret))))), false⟩
/-- (*foreman/step.Machine).settle -/
def a40 : AFn := ⟨18, [],
 (.seq (.reg [⟨(some 3), (.box 36 (.t 1)), none⟩])
 (.seq (.reg [⟨(some 4), (.mv (.t 0)), none⟩, ⟨(some 5), (.load true 8 (.t 3)), none⟩, ⟨(some 6), (.callf 80 [(.t 5)]), none⟩, ⟨(some 7), (.nilchk (.t 4)), none⟩, ⟨(some 8), (.fadd 0 (.t 7)), none⟩, ⟨none, (.store 8 (.t 8) (.t 6)), none⟩])
 (.dreg 0 [⟨⟨(some 9), (.mv (.t 0)), none⟩, 0, false, [], none⟩, ⟨⟨(some 10), (.nilchk (.t 9)), none⟩, 1, false, [], none⟩, ⟨⟨(some 11), (.fadd 8 (.t 10)), none⟩, 2, false, [], none⟩, ⟨⟨(some 12), (.load false 1 (.t 11)), none⟩, 3, false, [], none⟩, ⟨⟨(some 13), (.mv (.t 0)), none⟩, 4, false, [], none⟩, ⟨⟨(some 14), (.nilchk (.t 13)), none⟩, 5, false, [], none⟩, ⟨⟨(some 15), (.fadd 0 (.t 14)), none⟩, 6, false, [], none⟩, ⟨⟨(some 16), (.load true 8 (.t 15)), none⟩, 7, false, [], none⟩, ⟨⟨(some 17), (.callf 69 [(.t 12), (.t 16)]), none⟩, 8, true, [], none⟩]))), false⟩
/-- foreman/flow.Stand -/
def a41 : AFn := ⟨37, [.tmp 4, .tmp 5],
 (.seq (.reg [⟨(some 2), (.box 36 (.t 0)), none⟩, ⟨(some 4), (.mv (.c (.d (.i .u8 0)))), none⟩, ⟨(some 5), (.mv (.c (.d (.b false)))), none⟩])
 (.seq (.seq (.reg [⟨(some 9), (.mv (.t 1)), none⟩, ⟨(some 10), (.bin .lss .bad (.t 9) (.c (.d (.i .i64 0)))), none⟩, ⟨(some 11), (.mv (.t 10)), none⟩, ⟨(some 12), (.mv (.t 1)), (some (11, false))⟩, ⟨(some 13), (.fadd 5 (.t 2)), (some (11, false))⟩, ⟨(some 14), (.load false 1 (.t 13)), (some (11, false))⟩, ⟨(some 15), (.bin .geq .bad (.t 12) (.t 14)), (some (11, false))⟩, ⟨(some 16), (.pick (.t 11) (.c (.d (.b true))) (.t 15)), none⟩])
 (.cond (.t 16)
 (.seq (.reg [⟨(some 4), (.mv (.c (.d (.i .u8 0)))), none⟩, ⟨(some 5), (.mv (.c (.d (.b false)))), none⟩])
 .ret)
 .skip))
 (.seq (.reg [⟨(some 17), (.load true 8 (.t 2)), none⟩, ⟨(some 18), (.mv (.t 1)), none⟩, ⟨(some 19), (.callf 81 [(.t 17), (.t 18), (.c (.d (.i .i64 (-1))))]), none⟩, ⟨(some 6), (.mv (.t 19)), none⟩])
 (.seq (.seq (.reg [⟨(some 20), (.bsl 5 1 2 [(.d (.i .u8 0))] [(0, 1, (.c (.d (.i .u8 5)))), (1, 1, (.c (.d (.i .u8 6))))]), none⟩, ⟨(some 21), (.len 1 (.t 20)), none⟩, ⟨(some 22), (.mv (.c (.d (.i .i64 0)))), none⟩])
 (.blk 0 (.loop (.seq (.reg [⟨(some 23), (.bin .lss .bad (.t 22) (.t 21)), none⟩])
 (.seq (.cond (.t 23)
 .skip
 (.exit 0))
 (.seq (.blk 1 (.seq (.reg [⟨(some 24), (.iaS 1 (.t 20) (.t 22)), none⟩, ⟨(some 25), (.load false 1 (.t 24)), none⟩, ⟨(some 8), (.mv (.t 25)), none⟩])
 (.seq (.reg [⟨(some 26), (.mv (.t 6)), none⟩, ⟨(some 27), (.mv (.t 8)), none⟩, ⟨(some 28), (.callf 84 [(.t 27)]), none⟩, ⟨(some 29), (.callf 83 [(.t 28)]), none⟩, ⟨(some 30), (.callf 82 [(.t 26), (.t 29)]), none⟩, ⟨(some 31), (.un .not (.t 30)), none⟩])
 (.cond (.t 31)
 (.seq (.reg [⟨(some 32), (.mv (.t 8)), none⟩, ⟨(some 4), (.mv (.t 32)), none⟩, ⟨(some 5), (.mv (.c (.d (.b true)))), none⟩])
 .ret)
 .skip))))
 (.reg [⟨(some 33), (.bin .add .bad (.t 22) (.c (.d (.i .i64 1)))), none⟩, ⟨(some 22), (.mv (.t 33)), none⟩])))))))
 (.seq (.seq (.reg [⟨(some 34), (.mv (.t 6)), none⟩, ⟨(some 35), (.callf 84 [(.c (.d (.i .u8 4)))]), none⟩, ⟨(some 36), (.callf 82 [(.t 34), (.t 35)]), none⟩])
 (.cond (.t 36)
 (.seq (.reg [⟨(some 4), (.mv (.c (.d (.i .u8 4)))), none⟩, ⟨(some 5), (.mv (.c (.d (.b true)))), none⟩])
 .ret)
 .skip))
 (.seq (.reg [⟨(some 4), (.mv (.c (.d (.i .u8 2)))), none⟩, ⟨(some 5), (.mv (.c (.d (.b true)))), none⟩])
 .ret)))))), false⟩
/-- (*foreman/step.Machine).find -/
def a42 : AFn := ⟨48, [.tmp 6, .cell 7 true 5],
 (.seq (.reg [⟨(some 6), (.mv (.c (.d (.i .i64 0)))), none⟩, ⟨(some 7), (.alloc 44 [(.d (.i .i64 0)), (.d (.i .i64 0)), (.d (.i .i64 0)), .nilsl, (.d (.i .u8 0))]), none⟩])
 (.seq (.reg [⟨(some 11), (.mv (.t 0)), none⟩, ⟨(some 12), (.nilchk (.t 11)), none⟩, ⟨(some 13), (.fadd 0 (.t 12)), none⟩, ⟨(some 14), (.load true 8 (.t 13)), none⟩, ⟨(some 15), (.mv (.t 1)), none⟩, ⟨(some 16), (.callf 50 [(.t 14), (.t 15)]), none⟩, ⟨(some 10), (.mv (.t 16)), none⟩, ⟨(some 17), (.extr (.t 10) 0), none⟩, ⟨(some 18), (.extr (.t 10) 1), none⟩, ⟨(some 8), (.mv (.t 17)), none⟩, ⟨(some 9), (.mv (.t 18)), none⟩])
 (.seq (.blk 0 (.seq (.reg [⟨(some 20), (.mv (.t 9)), none⟩, ⟨(some 21), (.un .not (.t 20)), none⟩, ⟨(some 19), (.mv (.t 21)), none⟩])
 (.cond (.t 19)
 (.seq (.reg [⟨(some 22), (.callf 20 [(.c (.d (.i .i64 10)))]), none⟩, ⟨(some 6), (.mv (.c (.d (.i .i64 0)))), none⟩, ⟨none, (.store 5 (.t 7) (.t 22)), none⟩])
 .ret)
 (.seq (.reg [⟨(some 24), (.mv (.t 0)), none⟩, ⟨(some 25), (.nilchk (.t 24)), none⟩, ⟨(some 26), (.fadd 0 (.t 25)), none⟩, ⟨(some 27), (.fadd 6 (.t 26)), none⟩, ⟨(some 28), (.load false 1 (.t 27)), none⟩, ⟨(some 29), (.mv (.t 8)), none⟩, ⟨(some 30), (.iaS 16 (.t 28) (.t 29)), none⟩, ⟨(some 31), (.fadd 9 (.t 30)), none⟩, ⟨(some 32), (.load false 1 (.t 31)), none⟩, ⟨(some 33), (.mv (.t 2)), none⟩, ⟨(some 34), (.bin .neq .bad (.t 32) (.t 33)), none⟩, ⟨(some 23), (.mv (.t 34)), none⟩])
 (.cond (.t 23)
 (.seq (.dreg 0 [⟨⟨(some 35), (.mv (.t 0)), none⟩, 0, false, [], none⟩, ⟨⟨(some 36), (.nilchk (.t 35)), none⟩, 1, false, [], none⟩, ⟨⟨(some 37), (.fadd 0 (.t 36)), none⟩, 2, false, [], none⟩, ⟨⟨(some 38), (.fadd 6 (.t 37)), none⟩, 3, false, [], none⟩, ⟨⟨(some 39), (.load false 1 (.t 38)), none⟩, 4, false, [], none⟩, ⟨⟨(some 40), (.mv (.t 8)), none⟩, 5, false, [], none⟩, ⟨⟨(some 41), (.iaS 16 (.t 39) (.t 40)), none⟩, 6, false, [], none⟩, ⟨⟨(some 42), (.fadd 9 (.t 41)), none⟩, 7, false, [], none⟩, ⟨⟨(some 43), (.load false 1 (.t 42)), none⟩, 8, false, [], none⟩, ⟨⟨(some 44), (.build [(.d (.i .i64 0)), (.d (.i .i64 0)), (.d (.i .i64 0)), .nilsl, (.d (.i .u8 0))] [(0, 1, (.c (.d (.i .i64 11)))), (4, 1, (.t 43))]), none⟩, 9, false, [], none⟩, ⟨⟨(some 6), (.mv (.c (.d (.i .i64 0)))), none⟩, 10, false, [], none⟩, ⟨⟨none, (.store 5 (.t 7) (.t 44)), none⟩, 11, true, [], none⟩])
 .ret)
 .skip)))))
 (.seq (.reg [⟨(some 45), (.mv (.t 8)), none⟩, ⟨(some 46), (.mv (.t 2)), none⟩, ⟨(some 47), (.build [(.d (.i .i64 0)), (.d (.i .i64 0)), (.d (.i .i64 0)), .nilsl, (.d (.i .u8 0))] [(4, 1, (.t 46))]), none⟩, ⟨(some 6), (.mv (.t 45)), none⟩, ⟨none, (.store 5 (.t 7) (.t 47)), none⟩])
 .ret)))), false⟩
/-- foreman/fan.Input -/
def a43 : AFn := ⟨68, [.tmp 4, .tmp 5],
 (.seq (.reg [⟨(some 4), (.mv (.c .nilsl)), none⟩, ⟨(some 5), (.mv (.c (.d (.b false)))), none⟩])
 (.seq (.seq (.reg [⟨(some 12), (.mv (.t 0)), none⟩, ⟨(some 13), (.mv (.t 1)), none⟩, ⟨(some 14), (.callf 85 [(.t 12), (.t 13)]), none⟩, ⟨(some 15), (.un .not (.t 14)), none⟩])
 (.cond (.t 15)
 (.seq (.reg [⟨(some 4), (.mv (.c .nilsl)), none⟩, ⟨(some 5), (.mv (.c (.d (.b false)))), none⟩])
 .ret)
 .skip))
 (.seq (.reg [⟨(some 16), (.mv (.t 0)), none⟩, ⟨(some 17), (.mv (.t 1)), none⟩, ⟨(some 18), (.iaS 16 (.t 16) (.t 17)), none⟩, ⟨(some 19), (.load true 16 (.t 18)), none⟩, ⟨(some 6), (.alloc 64 [(.d (.s [])), (.d (.s [])), (.d (.i .u8 0)), (.d (.i .i64 0)), (.d (.i .i64 0)), (.d (.i .i64 0)), .nilsl, (.d (.i .i64 0)), (.d (.i .i64 0)), (.d (.i .u8 0)), (.d (.i .i64 0)), (.d (.i .i64 0)), (.d (.i .u8 0)), (.d (.i .i64 0)), (.d (.s [])), .nilsl]), none⟩, ⟨none, (.store 16 (.t 6) (.t 19)), none⟩])
 (.seq (.reg [⟨(some 7), (.mv (.c .nilsl)), none⟩])
 (.seq (.seq (.reg [⟨(some 20), (.fadd 2 (.t 6)), none⟩, ⟨(some 21), (.load false 1 (.t 20)), none⟩])
 (.blk 0 (.seq (.reg [⟨(some 23), (.bin .eql .bad (.t 21) (.c (.d (.i .u8 2)))), none⟩, ⟨(some 22), (.mv (.t 23)), none⟩])
 (.cond (.t 22)
 (.seq (.reg [⟨(some 25), (.mv (.t 0)), none⟩, ⟨(some 26), (.load true 16 (.t 6)), none⟩, ⟨(some 27), (.callf 86 [(.t 25), (.t 26)]), none⟩, ⟨(some 24), (.mv (.t 27)), none⟩, ⟨(some 28), (.extr (.t 24) 0), none⟩, ⟨(some 29), (.extr (.t 24) 1), none⟩, ⟨(some 8), (.alloc 24 [(.d (.i .u8 0)), (.d (.i .i64 0)), (.d (.s [])), .nilsl]), none⟩, ⟨none, (.store 4 (.t 8) (.t 28)), none⟩, ⟨(some 9), (.mv (.t 29)), none⟩])
 (.seq (.seq (.reg [⟨(some 30), (.mv (.t 9)), none⟩, ⟨(some 31), (.un .not (.t 30)), none⟩])
 (.cond (.t 31)
 (.seq (.reg [⟨(some 4), (.mv (.c .nilsl)), none⟩, ⟨(some 5), (.mv (.c (.d (.b false)))), none⟩])
 .ret)
 .skip))
 (.reg [⟨(some 32), (.mv (.t 7)), none⟩, ⟨(some 33), (.load true 4 (.t 8)), none⟩, ⟨(some 34), (.bsl 24 4 1 [(.d (.i .u8 0)), (.d (.i .i64 0)), (.d (.s [])), .nilsl] [(0, 4, (.t 33))]), none⟩, ⟨(some 35), (.app 24 4 56 false (.t 32) (.t 34)), none⟩, ⟨(some 7), (.mv (.t 35)), none⟩])))
 (.seq (.reg [⟨(some 37), (.bin .eql .bad (.t 21) (.c (.d (.i .u8 0)))), none⟩, ⟨(some 36), (.mv (.t 37)), none⟩])
 (.cond (.t 36)
 .skip
 (.seq (.reg [⟨(some 4), (.mv (.c .nilsl)), none⟩, ⟨(some 5), (.mv (.c (.d (.b false)))), none⟩])
 .ret)))))))
 (.seq (.seq (.reg [⟨(some 38), (.fadd 6 (.t 6)), none⟩, ⟨(some 39), (.load false 1 (.t 38)), none⟩, ⟨(some 40), (.len 1 (.t 39)), none⟩, ⟨(some 41), (.mv (.c (.d (.i .i64 0)))), none⟩])
 (.blk 1 (.loop (.seq (.reg [⟨(some 42), (.bin .lss .bad (.t 41) (.t 40)), none⟩])
 (.seq (.cond (.t 42)
 .skip
 (.exit 1))
 (.seq (.blk 2 (.seq (.reg [⟨(some 43), (.iaS 1 (.t 39) (.t 41)), none⟩, ⟨(some 44), (.load false 1 (.t 43)), none⟩, ⟨(some 11), (.mv (.t 44)), none⟩])
 (.seq (.seq (.reg [⟨(some 45), (.mv (.t 0)), none⟩, ⟨(some 46), (.mv (.t 11)), none⟩, ⟨(some 47), (.callf 85 [(.t 45), (.t 46)]), none⟩, ⟨(some 48), (.un .not (.t 47)), none⟩, ⟨(some 49), (.mv (.t 48)), none⟩, ⟨(some 50), (.mv (.t 0)), (some (49, false))⟩, ⟨(some 51), (.mv (.t 11)), (some (49, false))⟩, ⟨(some 52), (.iaS 16 (.t 50) (.t 51)), (some (49, false))⟩, ⟨(some 53), (.fadd 9 (.t 52)), (some (49, false))⟩, ⟨(some 54), (.load false 1 (.t 53)), (some (49, false))⟩, ⟨(some 55), (.bin .neq .bad (.t 54) (.c (.d (.i .u8 4)))), (some (49, false))⟩, ⟨(some 56), (.pick (.t 49) (.c (.d (.b true))) (.t 55)), none⟩])
 (.cond (.t 56)
 (.seq (.reg [⟨(some 4), (.mv (.c .nilsl)), none⟩, ⟨(some 5), (.mv (.c (.d (.b false)))), none⟩])
 .ret)
 .skip))
 (.reg [⟨(some 57), (.mv (.t 7)), none⟩, ⟨(some 58), (.mv (.t 0)), none⟩, ⟨(some 59), (.mv (.t 11)), none⟩, ⟨(some 60), (.iaS 16 (.t 58) (.t 59)), none⟩, ⟨(some 61), (.fadd 12 (.t 60)), none⟩, ⟨(some 62), (.load true 4 (.t 61)), none⟩, ⟨(some 63), (.callf 47 [(.t 62)]), none⟩, ⟨(some 64), (.bsl 24 4 1 [(.d (.i .u8 0)), (.d (.i .i64 0)), (.d (.s [])), .nilsl] [(0, 4, (.t 63))]), none⟩, ⟨(some 65), (.app 24 4 56 false (.t 57) (.t 64)), none⟩, ⟨(some 7), (.mv (.t 65)), none⟩]))))
 (.reg [⟨(some 66), (.bin .add .bad (.t 41) (.c (.d (.i .i64 1)))), none⟩, ⟨(some 41), (.mv (.t 66)), none⟩])))))))
 (.seq (.reg [⟨(some 67), (.mv (.t 7)), none⟩, ⟨(some 4), (.mv (.t 67)), none⟩, ⟨(some 5), (.mv (.c (.d (.b true)))), none⟩])
 .ret))))))), false⟩
/-- (*foreman/step.Machine).held -/
def a44 : AFn := ⟨35, [.tmp 4, .cell 5 true 5],
 (.seq (.reg [⟨(some 3), (.box 27 (.t 1)), none⟩, ⟨(some 4), (.mv (.c (.d (.i .i64 0)))), none⟩, ⟨(some 5), (.alloc 44 [(.d (.i .i64 0)), (.d (.i .i64 0)), (.d (.i .i64 0)), .nilsl, (.d (.i .u8 0))]), none⟩])
 (.seq (.reg [⟨(some 9), (.mv (.t 0)), none⟩, ⟨(some 10), (.fadd 1 (.t 3)), none⟩, ⟨(some 11), (.load false 1 (.t 10)), none⟩, ⟨(some 12), (.callf 42 [(.t 9), (.t 11), (.c (.d (.i .u8 2)))]), none⟩, ⟨(some 8), (.mv (.t 12)), none⟩, ⟨(some 13), (.extr (.t 8) 0), none⟩, ⟨(some 14), (.extr (.t 8) 1), none⟩, ⟨(some 7), (.alloc 44 [(.d (.i .i64 0)), (.d (.i .i64 0)), (.d (.i .i64 0)), .nilsl, (.d (.i .u8 0))]), none⟩, ⟨(some 6), (.mv (.t 13)), none⟩, ⟨none, (.store 5 (.t 7) (.t 14)), none⟩])
 (.seq (.seq (.dreg 0 [⟨⟨(some 15), (.fadd 0 (.t 7)), none⟩, 0, false, [], none⟩, ⟨⟨(some 16), (.load false 1 (.t 15)), none⟩, 1, false, [], none⟩, ⟨⟨(some 17), (.bin .eql .bad (.t 16) (.c (.d (.i .i64 0)))), none⟩, 2, false, [], none⟩, ⟨⟨(some 18), (.mv (.t 17)), none⟩, 3, false, [], none⟩, ⟨⟨(some 19), (.mv (.t 0)), (some (18, true))⟩, 4, false, [], none⟩, ⟨⟨(some 20), (.nilchk (.t 19)), (some (18, true))⟩, 5, false, [], none⟩, ⟨⟨(some 21), (.fadd 0 (.t 20)), (some (18, true))⟩, 6, false, [], none⟩, ⟨⟨(some 22), (.fadd 6 (.t 21)), (some (18, true))⟩, 7, false, [], none⟩, ⟨⟨(some 23), (.load false 1 (.t 22)), (some (18, true))⟩, 8, false, [], none⟩, ⟨⟨(some 24), (.mv (.t 6)), (some (18, true))⟩, 9, false, [], none⟩, ⟨⟨(some 25), (.iaS 16 (.t 23) (.t 24)), (some (18, true))⟩, 10, false, [], none⟩, ⟨⟨(some 26), (.fadd 11 (.t 25)), (some (18, true))⟩, 11, false, [], none⟩, ⟨⟨(some 27), (.load false 1 (.t 26)), (some (18, true))⟩, 12, false, [], none⟩, ⟨⟨(some 28), (.fadd 2 (.t 3)), (some (18, true))⟩, 13, false, [], none⟩, ⟨⟨(some 29), (.load false 1 (.t 28)), (some (18, true))⟩, 14, false, [], none⟩, ⟨⟨(some 30), (.bin .neq .bad (.t 27) (.t 29)), (some (18, true))⟩, 15, false, [], none⟩, ⟨⟨(some 31), (.pick (.t 18) (.t 30) (.c (.d (.b false)))), none⟩, 16, false, [], none⟩])
 (.cond (.t 31)
 (.reg [⟨(some 32), (.fadd 0 (.t 7)), none⟩, ⟨none, (.store 1 (.t 32) (.c (.d (.i .i64 12)))), none⟩])
 .skip))
 (.seq (.dreg 0 [⟨⟨(some 33), (.mv (.t 6)), none⟩, 0, false, [], none⟩, ⟨⟨(some 34), (.load true 5 (.t 7)), none⟩, 1, false, [], none⟩, ⟨⟨(some 4), (.mv (.t 33)), none⟩, 2, false, [], none⟩, ⟨⟨none, (.store 5 (.t 5) (.t 34)), none⟩, 3, true, [], none⟩])
 .ret)))), false⟩
/-- (*foreman/step.Machine).fits -/
def a45 : AFn := ⟨44, [.tmp 6],
 (.seq (.reg [⟨(some 5), (.box 24 (.t 2)), none⟩, ⟨(some 6), (.mv (.c (.d (.i .i64 0)))), none⟩])
 (.seq (.seq (.reg [⟨(some 10), (.mv (.t 0)), none⟩, ⟨(some 11), (.nilchk (.t 10)), none⟩, ⟨(some 12), (.fadd 0 (.t 11)), none⟩, ⟨(some 13), (.fadd 6 (.t 12)), none⟩, ⟨(some 14), (.load false 1 (.t 13)), none⟩, ⟨(some 15), (.len 1 (.t 14)), none⟩, ⟨(some 16), (.mv (.c (.d (.i .i64 0)))), none⟩])
 (.blk 0 (.loop (.seq (.reg [⟨(some 17), (.bin .lss .bad (.t 16) (.t 15)), none⟩])
 (.seq (.cond (.t 17)
 .skip
 (.exit 0))
 (.seq (.blk 1 (.seq (.reg [⟨(some 18), (.iaS 16 (.t 14) (.t 16)), none⟩, ⟨(some 19), (.load true 16 (.t 18)), none⟩, ⟨(some 8), (.alloc 64 [(.d (.s [])), (.d (.s [])), (.d (.i .u8 0)), (.d (.i .i64 0)), (.d (.i .i64 0)), (.d (.i .i64 0)), .nilsl, (.d (.i .i64 0)), (.d (.i .i64 0)), (.d (.i .u8 0)), (.d (.i .i64 0)), (.d (.i .i64 0)), (.d (.i .u8 0)), (.d (.i .i64 0)), (.d (.s [])), .nilsl]), none⟩, ⟨none, (.store 16 (.t 8) (.t 19)), none⟩])
 (.seq (.seq (.reg [⟨(some 20), (.fadd 2 (.t 8)), none⟩, ⟨(some 21), (.load false 1 (.t 20)), none⟩, ⟨(some 22), (.bin .neq .bad (.t 21) (.c (.d (.i .u8 1)))), none⟩, ⟨(some 23), (.mv (.t 22)), none⟩, ⟨(some 24), (.fadd 9 (.t 8)), (some (23, false))⟩, ⟨(some 25), (.load false 1 (.t 24)), (some (23, false))⟩, ⟨(some 26), (.bin .neq .bad (.t 25) (.c (.d (.i .u8 0)))), (some (23, false))⟩, ⟨(some 27), (.pick (.t 23) (.c (.d (.b true))) (.t 26)), none⟩, ⟨(some 28), (.mv (.t 27)), none⟩, ⟨(some 29), (.fadd 6 (.t 8)), (some (28, false))⟩, ⟨(some 30), (.load false 1 (.t 29)), (some (28, false))⟩, ⟨(some 31), (.iaS 1 (.t 30) (.c (.d (.i .i64 0)))), (some (28, false))⟩, ⟨(some 32), (.load false 1 (.t 31)), (some (28, false))⟩, ⟨(some 33), (.mv (.t 1)), (some (28, false))⟩, ⟨(some 34), (.bin .neq .bad (.t 32) (.t 33)), (some (28, false))⟩, ⟨(some 35), (.pick (.t 28) (.c (.d (.b true))) (.t 34)), none⟩])
 (.cond (.t 35)
 (.exit 1)
 .skip))
 (.seq (.reg [⟨(some 36), (.load true 4 (.t 5)), none⟩, ⟨(some 37), (.fadd 7 (.t 8)), none⟩, ⟨(some 38), (.load false 1 (.t 37)), none⟩, ⟨(some 39), (.callf 87 [(.t 36), (.t 38)]), none⟩, ⟨(some 9), (.mv (.t 39)), none⟩])
 (.seq (.reg [⟨(some 40), (.mv (.t 9)), none⟩, ⟨(some 41), (.bin .neq .bad (.t 40) (.c (.d (.i .i64 0)))), none⟩])
 (.cond (.t 41)
 (.seq (.reg [⟨(some 42), (.mv (.t 9)), none⟩, ⟨(some 6), (.mv (.t 42)), none⟩])
 .ret)
 .skip))))))
 (.reg [⟨(some 43), (.bin .add .bad (.t 16) (.c (.d (.i .i64 1)))), none⟩, ⟨(some 16), (.mv (.t 43)), none⟩])))))))
 (.seq (.reg [⟨(some 6), (.mv (.c (.d (.i .i64 0)))), none⟩])
 .ret))), false⟩
/-- (*foreman/step.Machine).misses -/
def a46 : AFn := ⟨27, [.cell 6 true 5],
 (.seq (.reg [⟨(some 6), (.alloc 44 [(.d (.i .i64 0)), (.d (.i .i64 0)), (.d (.i .i64 0)), .nilsl, (.d (.i .u8 0))]), none⟩])
 (.seq (.reg [⟨(some 7), (.mv (.t 0)), none⟩, ⟨(some 8), (.mv (.t 0)), none⟩, ⟨(some 9), (.nilchk (.t 8)), none⟩, ⟨(some 10), (.fadd 0 (.t 9)), none⟩, ⟨(some 11), (.load true 8 (.t 10)), none⟩, ⟨(some 12), (.mv (.t 1)), none⟩, ⟨(some 13), (.callf 88 [(.t 11), (.t 12)]), none⟩, ⟨(some 14), (.nilchk (.t 7)), none⟩, ⟨(some 15), (.fadd 0 (.t 14)), none⟩, ⟨none, (.store 8 (.t 15) (.t 13)), none⟩])
 (.seq (.reg [⟨(some 16), (.mv (.t 2)), none⟩, ⟨(some 17), (.mv (.t 0)), none⟩, ⟨(some 18), (.nilchk (.t 17)), none⟩, ⟨(some 19), (.fadd 0 (.t 18)), none⟩, ⟨(some 20), (.fadd 6 (.t 19)), none⟩, ⟨(some 21), (.load false 1 (.t 20)), none⟩, ⟨(some 22), (.mv (.t 1)), none⟩, ⟨(some 23), (.iaS 16 (.t 21) (.t 22)), none⟩, ⟨(some 24), (.fadd 9 (.t 23)), none⟩, ⟨(some 25), (.load false 1 (.t 24)), none⟩, ⟨(some 26), (.build [(.d (.i .i64 0)), (.d (.i .i64 0)), (.d (.i .i64 0)), .nilsl, (.d (.i .u8 0))] [(0, 1, (.t 16)), (4, 1, (.t 25))]), none⟩, ⟨none, (.store 5 (.t 6) (.t 26)), none⟩])
 .ret))), false⟩
/-- foreman/value.Copy -/
def a47 : AFn := ⟨24, [.cell 2 true 4],
 (.seq (.reg [⟨(some 1), (.box 24 (.t 0)), none⟩, ⟨(some 2), (.alloc 24 [(.d (.i .u8 0)), (.d (.i .i64 0)), (.d (.s [])), .nilsl]), none⟩])
 (.seq (.reg [⟨(some 6), (.fadd 3 (.t 1)), none⟩, ⟨(some 7), (.load false 1 (.t 6)), none⟩, ⟨(some 3), (.mv (.t 7)), none⟩])
 (.seq (.reg [⟨(some 8), (.fadd 3 (.t 1)), none⟩, ⟨none, (.store 1 (.t 8) (.c .nilsl)), none⟩])
 (.seq (.seq (.reg [⟨(some 9), (.mv (.t 3)), none⟩, ⟨(some 10), (.len 1 (.t 9)), none⟩, ⟨(some 11), (.mv (.c (.d (.i .i64 0)))), none⟩])
 (.blk 0 (.loop (.seq (.reg [⟨(some 12), (.bin .lss .bad (.t 11) (.t 10)), none⟩])
 (.seq (.cond (.t 12)
 .skip
 (.exit 0))
 (.seq (.blk 1 (.seq (.reg [⟨(some 13), (.iaS 4 (.t 9) (.t 11)), none⟩, ⟨(some 14), (.load true 4 (.t 13)), none⟩, ⟨(some 5), (.alloc 24 [(.d (.i .u8 0)), (.d (.i .i64 0)), (.d (.s [])), .nilsl]), none⟩, ⟨none, (.store 4 (.t 5) (.t 14)), none⟩])
 (.dreg 1 [⟨⟨(some 17), (.load true 4 (.t 5)), none⟩, 2, false, [], none⟩, ⟨⟨(some 18), (.callf 47 [(.t 17)]), none⟩, 3, true, [], none⟩, ⟨⟨(some 15), (.fadd 3 (.t 1)), none⟩, 0, false, [], none⟩, ⟨⟨(some 16), (.load false 1 (.t 15)), none⟩, 1, false, [], none⟩, ⟨⟨(some 19), (.bsl 24 4 1 [(.d (.i .u8 0)), (.d (.i .i64 0)), (.d (.s [])), .nilsl] [(0, 4, (.t 18))]), none⟩, 4, false, [], (some 0)⟩, ⟨⟨(some 20), (.app 24 4 56 false (.t 16) (.t 19)), none⟩, 5, true, [], none⟩, ⟨⟨(some 21), (.fadd 3 (.t 1)), none⟩, 6, false, [5, 3], none⟩, ⟨⟨none, (.store 1 (.t 21) (.t 20)), none⟩, 7, true, [], none⟩])))
 (.reg [⟨(some 22), (.bin .add .bad (.t 11) (.c (.d (.i .i64 1)))), none⟩, ⟨(some 11), (.mv (.t 22)), none⟩])))))))
 (.seq (.reg [⟨(some 23), (.load true 4 (.t 1)), none⟩, ⟨none, (.store 4 (.t 2) (.t 23)), none⟩])
 .ret))))), false⟩
/-- foreman/ident.Parse -/
def a48 : AFn := ⟨39, [.cell 2 true 2, .cell 3 false 1],
 (.seq (.reg [⟨(some 2), (.alloc 96 [(.d (.i .i64 0)), .nilsl]), none⟩, ⟨(some 3), (.alloc 4 [(.d (.b false))]), none⟩])
 (.seq (.reg [⟨(some 4), (.alloc 96 [(.d (.i .i64 0)), .nilsl]), none⟩])
 (.seq (.reg [⟨(some 5), (.alloc 4 [(.d (.b false))]), none⟩, ⟨none, (.store 1 (.t 5) (.c (.d (.b true)))), none⟩])
 (.seq (.seq (.reg [⟨(some 9), (.mv (.t 0)), none⟩, ⟨(some 10), (.callf 89 [(.t 9), (.c (.d (.s [47])))]), none⟩])
 (.blk 0 (.rfun (.t 10) [11] (.reg [⟨(some 6), (.mv (.t 11)), none⟩]) (.blk 1 (.seq (.seq (.reg [⟨(some 12), (.load false 1 (.t 5)), none⟩])
 (.cond (.t 12)
 (.seq (.reg [⟨none, (.store 1 (.t 5) (.c (.d (.b false)))), none⟩])
 (.seq (.seq (.reg [⟨(some 13), (.mv (.t 6)), none⟩, ⟨(some 14), (.callf 90 [(.t 13)]), none⟩, ⟨(some 15), (.fadd 0 (.t 4)), none⟩, ⟨none, (.store 1 (.t 15) (.t 14)), none⟩])
 (.seq (.reg [⟨(some 16), (.fadd 0 (.t 4)), none⟩, ⟨(some 17), (.load false 1 (.t 16)), none⟩, ⟨(some 18), (.bin .eql .bad (.t 17) (.c (.d (.i .i64 (-1))))), none⟩])
 (.cond (.t 18)
 (.seq (.reg [⟨(some 19), (.build [(.d (.i .i64 0)), .nilsl] []), none⟩, ⟨none, (.store 2 (.t 2) (.t 19)), none⟩, ⟨none, (.store 1 (.t 3) (.c (.d (.b false)))), none⟩])
 .ret)
 .skip)))
 (.exit 1)))
 .skip))
 (.seq (.reg [⟨(some 21), (.mv (.t 6)), none⟩, ⟨(some 22), (.callf 91 [(.t 21)]), none⟩, ⟨(some 20), (.mv (.t 22)), none⟩, ⟨(some 23), (.extr (.t 20) 0), none⟩, ⟨(some 24), (.extr (.t 20) 1), none⟩, ⟨(some 7), (.alloc 147 [(.d (.s [])), (.d (.i .i64 0))]), none⟩, ⟨none, (.store 2 (.t 7) (.t 23)), none⟩, ⟨(some 8), (.mv (.t 24)), none⟩])
 (.seq (.seq (.reg [⟨(some 25), (.mv (.t 8)), none⟩, ⟨(some 26), (.un .not (.t 25)), none⟩])
 (.cond (.t 26)
 (.seq (.reg [⟨(some 27), (.build [(.d (.i .i64 0)), .nilsl] []), none⟩, ⟨none, (.store 2 (.t 2) (.t 27)), none⟩, ⟨none, (.store 1 (.t 3) (.c (.d (.b false)))), none⟩])
 .ret)
 .skip))
 (.reg [⟨(some 28), (.fadd 1 (.t 4)), none⟩, ⟨(some 29), (.load false 1 (.t 28)), none⟩, ⟨(some 30), (.load true 2 (.t 7)), none⟩, ⟨(some 31), (.bsl 147 2 1 [(.d (.s [])), (.d (.i .i64 0))] [(0, 2, (.t 30))]), none⟩, ⟨(some 32), (.app 147 2 24 false (.t 29) (.t 31)), none⟩, ⟨(some 33), (.fadd 1 (.t 4)), none⟩, ⟨none, (.store 1 (.t 33) (.t 32)), none⟩]))))))))
 (.seq (.seq (.reg [⟨(some 34), (.mv (.t 0)), none⟩, ⟨(some 35), (.len 0 (.t 34)), none⟩, ⟨(some 36), (.bin .gtr .bad (.t 35) (.c (.d (.i .i64 400)))), none⟩])
 (.cond (.t 36)
 (.seq (.reg [⟨(some 37), (.build [(.d (.i .i64 0)), .nilsl] []), none⟩, ⟨none, (.store 2 (.t 2) (.t 37)), none⟩, ⟨none, (.store 1 (.t 3) (.c (.d (.b false)))), none⟩])
 .ret)
 .skip))
 (.seq (.reg [⟨(some 38), (.load true 2 (.t 4)), none⟩, ⟨none, (.store 2 (.t 2) (.t 38)), none⟩, ⟨none, (.store 1 (.t 3) (.c (.d (.b true)))), none⟩])
 .ret)))))), false⟩
/-- foreman/flow.Find -/
def a50 : AFn := ⟨15, [.tmp 4, .tmp 5],
 (.seq (.reg [⟨(some 2), (.box 36 (.t 0)), none⟩, ⟨(some 3), (.box 9 (.t 1)), none⟩, ⟨(some 4), (.mv (.c (.d (.i .i64 0)))), none⟩, ⟨(some 5), (.mv (.c (.d (.b false)))), none⟩])
 (.seq (.reg [⟨(some 7), (.fadd 6 (.t 2)), none⟩, ⟨(some 8), (.load false 1 (.t 7)), none⟩, ⟨(some 9), (.mkfn (.func 94) [] [(.t 3)]), none⟩, ⟨(some 10), (.callf 93 [(.t 8), (.t 9)]), none⟩, ⟨(some 6), (.mv (.t 10)), none⟩])
 (.seq (.reg [⟨(some 11), (.mv (.t 6)), none⟩, ⟨(some 12), (.mx [(.t 11), (.c (.d (.i .i64 0)))]), none⟩, ⟨(some 13), (.mv (.t 6)), none⟩, ⟨(some 14), (.bin .geq .bad (.t 13) (.c (.d (.i .i64 0)))), none⟩, ⟨(some 4), (.mv (.t 12)), none⟩, ⟨(some 5), (.mv (.t 14)), none⟩])
 .ret))), false⟩
/-- (*foreman/order.Order).none -/
def a55 : AFn := ⟨12, [.tmp 2],
 (.seq (.reg [⟨(some 2), (.mv (.c (.d (.b false)))), none⟩])
 (.seq (.reg [⟨(some 3), (.mv (.t 0)), none⟩, ⟨(some 4), (.bin .eql .ptr (.t 3) (.c (.d .nilp))), none⟩, ⟨(some 5), (.mv (.t 4)), none⟩, ⟨(some 6), (.mv (.t 0)), (some (5, false))⟩, ⟨(some 7), (.nilchk (.t 6)), (some (5, false))⟩, ⟨(some 8), (.fadd 0 (.t 7)), (some (5, false))⟩, ⟨(some 9), (.load false 1 (.t 8)), (some (5, false))⟩, ⟨(some 10), (.bin .eql .ptr (.t 9) (.c (.d .nilp))), (some (5, false))⟩, ⟨(some 11), (.pick (.t 5) (.c (.d (.b true))) (.t 10)), none⟩, ⟨(some 2), (.mv (.t 11)), none⟩])
 .ret)), false⟩
/-- (*foreman/graph.Graph).Copy -/
def a56 : AFn := ⟨40, [.tmp 2],
 (.seq (.reg [⟨(some 2), (.mv (.c (.d .nilp))), none⟩])
 (.seq (.seq (.reg [⟨(some 6), (.mv (.t 0)), none⟩, ⟨(some 7), (.callf 98 [(.t 6)]), none⟩])
 (.cond (.t 7)
 (.seq (.reg [⟨(some 2), (.mv (.c (.d .nilp))), none⟩])
 .ret)
 .skip))
 (.seq (.reg [⟨(some 8), (.mv (.t 0)), none⟩, ⟨(some 9), (.nilchk (.t 8)), none⟩, ⟨(some 10), (.fadd 1 (.t 9)), none⟩, ⟨(some 11), (.load false 1 (.t 10)), none⟩, ⟨(some 12), (.clone 99 158 2 48 true (.t 11)), none⟩, ⟨(some 13), (.build [(.d (.b false)), .nilsl] [(0, 1, (.c (.d (.b true)))), (1, 1, (.t 12))]), none⟩, ⟨(some 14), (.box 160 (.t 13)), none⟩, ⟨(some 3), (.mv (.t 14)), none⟩])
 (.seq (.seq (.reg [⟨(some 15), (.mv (.t 3)), none⟩, ⟨(some 16), (.nilchk (.t 15)), none⟩, ⟨(some 17), (.fadd 1 (.t 16)), none⟩, ⟨(some 18), (.load false 1 (.t 17)), none⟩, ⟨(some 19), (.len 1 (.t 18)), none⟩, ⟨(some 20), (.mv (.c (.d (.i .i64 0)))), none⟩])
 (.blk 0 (.loop (.seq (.reg [⟨(some 21), (.bin .lss .bad (.t 20) (.t 19)), none⟩])
 (.seq (.cond (.t 21)
 .skip
 (.exit 0))
 (.seq (.blk 1 (.seq (.reg [⟨(some 22), (.mv (.t 20)), none⟩, ⟨(some 23), (.iaS 2 (.t 18) (.t 20)), none⟩, ⟨(some 24), (.load true 2 (.t 23)), none⟩, ⟨(some 5), (.alloc 158 [.nilsl, .nilsl]), none⟩, ⟨(some 4), (.mv (.t 22)), none⟩, ⟨none, (.store 2 (.t 5) (.t 24)), none⟩])
 (.dreg 0 [⟨⟨(some 30), (.fadd 0 (.t 5)), none⟩, 5, false, [], none⟩, ⟨⟨(some 31), (.load false 1 (.t 30)), none⟩, 6, false, [], none⟩, ⟨⟨(some 32), (.clone 54 3 1 8 true (.t 31)), none⟩, 7, true, [], none⟩, ⟨⟨(some 33), (.fadd 1 (.t 5)), none⟩, 8, false, [], none⟩, ⟨⟨(some 34), (.load false 1 (.t 33)), none⟩, 9, false, [], none⟩, ⟨⟨(some 35), (.clone 54 3 1 8 true (.t 34)), none⟩, 10, true, [], none⟩, ⟨⟨(some 25), (.mv (.t 3)), none⟩, 0, false, [], none⟩, ⟨⟨(some 26), (.nilchk (.t 25)), none⟩, 1, false, [], none⟩, ⟨⟨(some 27), (.fadd 1 (.t 26)), none⟩, 2, false, [], none⟩, ⟨⟨(some 28), (.load false 1 (.t 27)), none⟩, 3, false, [], none⟩, ⟨⟨(some 29), (.mv (.t 4)), none⟩, 4, false, [], none⟩, ⟨⟨(some 36), (.build [.nilsl, .nilsl] [(0, 1, (.t 32)), (1, 1, (.t 35))]), none⟩, 11, false, [10, 7], none⟩, ⟨⟨(some 37), (.iaS 2 (.t 28) (.t 29)), none⟩, 12, false, [10, 7], none⟩, ⟨⟨none, (.store 2 (.t 37) (.t 36)), none⟩, 13, true, [], none⟩])))
 (.reg [⟨(some 38), (.bin .add .bad (.t 20) (.c (.d (.i .i64 1)))), none⟩, ⟨(some 20), (.mv (.t 38)), none⟩])))))))
 (.seq (.reg [⟨(some 39), (.mv (.t 3)), none⟩, ⟨(some 2), (.mv (.t 39)), none⟩])
 .ret))))), true⟩
/-- foreman/snap.Right -/
def a57 : AFn := ⟨22, [.tmp 2],
 (.seq (.reg [⟨(some 1), (.box 36 (.t 0)), none⟩, ⟨(some 2), (.mv (.c (.d (.b false)))), none⟩])
 (.seq (.reg [⟨(some 3), (.callf 101 [(.t 1)]), none⟩, ⟨(some 4), (.callf 100 [(.t 3)]), none⟩, ⟨(some 5), (.mv (.t 4)), none⟩, ⟨(some 6), (.fadd 7 (.t 1)), (some (5, true))⟩, ⟨(some 7), (.load false 1 (.t 6)), (some (5, true))⟩, ⟨(some 8), (.bin .geq .bad (.t 7) (.c (.d (.i .i64 0)))), (some (5, true))⟩, ⟨(some 9), (.pick (.t 5) (.t 8) (.c (.d (.b false)))), none⟩, ⟨(some 10), (.mv (.t 9)), none⟩, ⟨(some 11), (.fadd 6 (.t 1)), (some (10, true))⟩, ⟨(some 12), (.load false 1 (.t 11)), (some (10, true))⟩, ⟨(some 13), (.len 1 (.t 12)), (some (10, true))⟩, ⟨(some 14), (.bin .leq .bad (.t 13) (.c (.d (.i .i64 4800)))), (some (10, true))⟩, ⟨(some 15), (.pick (.t 10) (.t 14) (.c (.d (.b false)))), none⟩, ⟨(some 16), (.mv (.t 15)), none⟩, ⟨(some 17), (.fadd 6 (.t 1)), (some (16, true))⟩, ⟨(some 18), (.load false 1 (.t 17)), (some (16, true))⟩, ⟨(some 19), (.callf 102 [(.t 18), (.c (.d (.fn (.func 103) [] [])))]), (some (16, true))⟩, ⟨(some 20), (.un .not (.t 19)), (some (16, true))⟩, ⟨(some 21), (.pick (.t 16) (.t 20) (.c (.d (.b false)))), none⟩, ⟨(some 2), (.mv (.t 21)), none⟩])
 .ret)), false⟩
/-- (*foreman/flow.judge).owners -/
def a58 : AFn := ⟨14, [.tmp 2],
 (.seq (.reg [⟨(some 1), (.box 111 (.t 0)), none⟩, ⟨(some 2), (.mv (.c (.d (.b false)))), none⟩])
 (.seq (.reg [⟨(some 3), (.load false 1 (.t 1)), none⟩, ⟨(some 4), (.nilchk (.t 3)), none⟩, ⟨(some 5), (.fadd 0 (.t 4)), none⟩, ⟨(some 6), (.fadd 6 (.t 5)), none⟩, ⟨(some 7), (.load false 1 (.t 6)), none⟩, ⟨(some 8), (.callf 105 [(.t 7)]), none⟩, ⟨(some 9), (.mv (.t 8)), none⟩, ⟨(some 10), (.load false 1 (.t 1)), (some (9, true))⟩, ⟨(some 11), (.mkfn (.func 107) [] [(.t 1)]), (some (9, true))⟩, ⟨(some 12), (.callf 106 [(.t 10), (.t 11)]), (some (9, true))⟩, ⟨(some 13), (.pick (.t 9) (.t 12) (.c (.d (.b false)))), none⟩, ⟨(some 2), (.mv (.t 13)), none⟩])
 .ret)), false⟩
/-- (*foreman/flow.judge).ids -/
def a59 : AFn := ⟨8, [.tmp 2],
 (.seq (.reg [⟨(some 1), (.box 111 (.t 0)), none⟩, ⟨(some 2), (.mv (.c (.d (.b false)))), none⟩])
 (.seq (.reg [⟨(some 4), .mkmap, none⟩, ⟨(some 3), (.alloc 169 [(.d .nilm)]), none⟩, ⟨none, (.store 1 (.t 3) (.t 4)), none⟩])
 (.seq (.reg [⟨(some 5), (.load false 1 (.t 1)), none⟩, ⟨(some 6), (.mkfn (.func 108) [] [(.t 1), (.t 3)]), none⟩, ⟨(some 7), (.callf 106 [(.t 5), (.t 6)]), none⟩, ⟨(some 2), (.mv (.t 7)), none⟩])
 .ret))), false⟩
/-- (*foreman/flow.judge).kinds -/
def a60 : AFn := ⟨6, [.tmp 2],
 (.seq (.reg [⟨(some 1), (.box 111 (.t 0)), none⟩, ⟨(some 2), (.mv (.c (.d (.b false)))), none⟩])
 (.seq (.reg [⟨(some 3), (.load false 1 (.t 1)), none⟩, ⟨(some 4), (.mkfn (.func 112) [] [(.t 1)]), none⟩, ⟨(some 5), (.callf 106 [(.t 3), (.t 4)]), none⟩, ⟨(some 2), (.mv (.t 5)), none⟩])
 .ret)), false⟩
/-- (*foreman/flow.judge).places -/
def a61 : AFn := ⟨12, [.tmp 2],
 (.seq (.reg [⟨(some 1), (.box 111 (.t 0)), none⟩, ⟨(some 2), (.mv (.c (.d (.b false)))), none⟩])
 (.seq (.reg [⟨(some 4), (.load false 1 (.t 1)), none⟩, ⟨(some 5), (.mkfn (.func 114) [] [(.t 1)]), none⟩, ⟨(some 6), (.callf 106 [(.t 4), (.t 5)]), none⟩, ⟨(some 3), (.mv (.t 6)), none⟩])
 (.seq (.reg [⟨(some 7), (.mv (.t 3)), none⟩, ⟨(some 8), (.mv (.t 7)), none⟩, ⟨(some 9), (.load false 1 (.t 1)), (some (8, true))⟩, ⟨(some 10), (.callf 116 [(.t 9)]), (some (8, true))⟩, ⟨(some 11), (.pick (.t 8) (.t 10) (.c (.d (.b false)))), none⟩, ⟨(some 2), (.mv (.t 11)), none⟩])
 .ret))), false⟩
/-- (*foreman/flow.judge).limits -/
def a62 : AFn := ⟨13, [.tmp 2],
 (.seq (.reg [⟨(some 1), (.box 111 (.t 0)), none⟩, ⟨(some 2), (.mv (.c (.d (.b false)))), none⟩])
 (.seq (.reg [⟨(some 4), (.load false 1 (.t 1)), none⟩, ⟨(some 5), (.mkfn (.func 117) [] [(.t 1)]), none⟩, ⟨(some 6), (.callf 106 [(.t 4), (.t 5)]), none⟩, ⟨(some 3), (.mv (.t 6)), none⟩])
 (.seq (.reg [⟨(some 7), (.mv (.t 3)), none⟩, ⟨(some 8), (.mv (.t 7)), none⟩, ⟨(some 9), (.load false 1 (.t 1)), (some (8, true))⟩, ⟨(some 10), (.mkfn (.func 121) [] [(.t 1)]), (some (8, true))⟩, ⟨(some 11), (.callf 120 [(.t 9), (.t 10)]), (some (8, true))⟩, ⟨(some 12), (.pick (.t 8) (.t 11) (.c (.d (.b false)))), none⟩, ⟨(some 2), (.mv (.t 12)), none⟩])
 .ret))), false⟩
/-- (*foreman/flow.judge).tokens -/
def a63 : AFn := ⟨16, [.tmp 2],
 (.seq (.reg [⟨(some 1), (.box 111 (.t 0)), none⟩, ⟨(some 2), (.mv (.c (.d (.b false)))), none⟩])
 (.seq (.reg [⟨(some 4), .mkmap, none⟩, ⟨(some 3), (.alloc 179 [(.d .nilm)]), none⟩, ⟨none, (.store 1 (.t 3) (.t 4)), none⟩])
 (.seq (.reg [⟨(some 5), (.load false 1 (.t 1)), none⟩, ⟨(some 6), (.nilchk (.t 5)), none⟩, ⟨(some 7), (.fadd 0 (.t 6)), none⟩, ⟨(some 8), (.fadd 7 (.t 7)), none⟩, ⟨(some 9), (.load false 1 (.t 8)), none⟩, ⟨(some 10), (.bin .leq .bad (.t 9) (.c (.d (.i .i64 4611686018427387904)))), none⟩, ⟨(some 11), (.mv (.t 10)), none⟩, ⟨(some 12), (.load false 1 (.t 1)), (some (11, true))⟩, ⟨(some 13), (.mkfn (.func 122) [] [(.t 3), (.t 1)]), (some (11, true))⟩, ⟨(some 14), (.callf 106 [(.t 12), (.t 13)]), (some (11, true))⟩, ⟨(some 15), (.pick (.t 11) (.t 14) (.c (.d (.b false)))), none⟩, ⟨(some 2), (.mv (.t 15)), none⟩])
 .ret))), false⟩
/-- (*foreman/flow.judge).failures -/
def a64 : AFn := ⟨6, [.tmp 2],
 (.seq (.reg [⟨(some 1), (.box 111 (.t 0)), none⟩, ⟨(some 2), (.mv (.c (.d (.b false)))), none⟩])
 (.seq (.reg [⟨(some 3), (.load false 1 (.t 1)), none⟩, ⟨(some 4), (.mkfn (.func 123) [] [(.t 1)]), none⟩, ⟨(some 5), (.callf 106 [(.t 3), (.t 4)]), none⟩, ⟨(some 2), (.mv (.t 5)), none⟩])
 .ret)), false⟩
/-- (*foreman/flow.judge).waits -/
def a65 : AFn := ⟨6, [.tmp 2],
 (.seq (.reg [⟨(some 1), (.box 111 (.t 0)), none⟩, ⟨(some 2), (.mv (.c (.d (.b false)))), none⟩])
 (.seq (.reg [⟨(some 3), (.load false 1 (.t 1)), none⟩, ⟨(some 4), (.mkfn (.func 124) [] [(.t 1)]), none⟩, ⟨(some 5), (.callf 106 [(.t 3), (.t 4)]), none⟩, ⟨(some 2), (.mv (.t 5)), none⟩])
 .ret)), false⟩
/-- (*foreman/flow.judge).holds -/
def a66 : AFn := ⟨14, [.tmp 2],
 (.seq (.reg [⟨(some 1), (.box 111 (.t 0)), none⟩, ⟨(some 2), (.mv (.c (.d (.b false)))), none⟩])
 (.seq (.reg [⟨(some 3), (.alloc 102 [(.d .nilf)]), none⟩, ⟨none, (.store 1 (.t 3) (.c (.d (.fn (.func 126) [] [])))), none⟩])
 (.seq (.reg [⟨(some 5), (.load false 1 (.t 1)), none⟩, ⟨(some 6), (.mkfn (.func 127) [] [(.t 1), (.t 3)]), none⟩, ⟨(some 7), (.callf 106 [(.t 5), (.t 6)]), none⟩, ⟨(some 4), (.mv (.t 7)), none⟩])
 (.seq (.reg [⟨(some 8), (.mv (.t 4)), none⟩, ⟨(some 9), (.mv (.t 8)), none⟩, ⟨(some 10), (.load false 1 (.t 1)), (some (9, true))⟩, ⟨(some 11), (.mkfn (.func 128) [] [(.t 1), (.t 3)]), (some (9, true))⟩, ⟨(some 12), (.callf 120 [(.t 10), (.t 11)]), (some (9, true))⟩, ⟨(some 13), (.pick (.t 9) (.t 12) (.c (.d (.b false)))), none⟩, ⟨(some 2), (.mv (.t 13)), none⟩])
 .ret)))), false⟩
/-- (*foreman/flow.judge).values -/
def a67 : AFn := ⟨6, [.tmp 2],
 (.seq (.reg [⟨(some 1), (.box 111 (.t 0)), none⟩, ⟨(some 2), (.mv (.c (.d (.b false)))), none⟩])
 (.seq (.reg [⟨(some 3), (.load false 1 (.t 1)), none⟩, ⟨(some 4), (.mkfn (.func 129) [] [(.t 1)]), none⟩, ⟨(some 5), (.callf 106 [(.t 3), (.t 4)]), none⟩, ⟨(some 2), (.mv (.t 5)), none⟩])
 .ret)), false⟩
/-- foreman/order.New -/
def a68 : AFn := ⟨25, [.tmp 2, .tmp 3],
 (.seq (.reg [⟨(some 2), (.mv (.c (.d .nilp))), none⟩, ⟨(some 3), (.mv (.c (.d (.i .i64 0)))), none⟩])
 (.seq (.reg [⟨(some 9), (.callf 130 [(.c (.d (.i .i64 0)))]), none⟩, ⟨(some 8), (.mv (.t 9)), none⟩, ⟨(some 10), (.extr (.t 8) 0), none⟩, ⟨(some 11), (.extr (.t 8) 1), none⟩, ⟨(some 4), (.mv (.t 10)), none⟩, ⟨(some 5), (.mv (.t 11)), none⟩])
 (.seq (.seq (.reg [⟨(some 12), (.mv (.t 5)), none⟩, ⟨(some 13), (.bin .neq .bad (.t 12) (.c (.d (.i .i64 0)))), none⟩])
 (.cond (.t 13)
 (.seq (.reg [⟨(some 14), (.mv (.t 5)), none⟩, ⟨(some 2), (.mv (.c (.d .nilp))), none⟩, ⟨(some 3), (.mv (.t 14)), none⟩])
 .ret)
 .skip))
 (.seq (.reg [⟨(some 15), (.mv (.t 4)), none⟩, ⟨(some 16), (.build [(.d .nilp), .nilsl, .nilsl] [(0, 1, (.t 15))]), none⟩, ⟨(some 17), (.box 108 (.t 16)), none⟩, ⟨(some 6), (.mv (.t 17)), none⟩])
 (.seq (.seq (.reg [⟨(some 18), (.mv (.t 6)), none⟩, ⟨(some 19), (.mv (.t 0)), none⟩, ⟨(some 20), (.callf 131 [(.t 18), (.t 19)]), none⟩, ⟨(some 7), (.mv (.t 20)), none⟩])
 (.seq (.reg [⟨(some 21), (.mv (.t 7)), none⟩, ⟨(some 22), (.bin .neq .bad (.t 21) (.c (.d (.i .i64 0)))), none⟩])
 (.cond (.t 22)
 (.seq (.reg [⟨(some 23), (.mv (.t 7)), none⟩, ⟨(some 2), (.mv (.c (.d .nilp))), none⟩, ⟨(some 3), (.mv (.t 23)), none⟩])
 .ret)
 .skip)))
 (.seq (.reg [⟨(some 24), (.mv (.t 6)), none⟩, ⟨(some 2), (.mv (.t 24)), none⟩, ⟨(some 3), (.mv (.c (.d (.i .i64 0)))), none⟩])
 .ret)))))), true⟩
/-- foreman/build.Grow -/
def a69 : AFn := ⟨41, [.tmp 4],
 (.seq (.reg [⟨(some 3), (.box 36 (.t 1)), none⟩, ⟨(some 4), (.mv (.c (.d (.i .i64 0)))), none⟩])
 (.seq (.seq (.reg [⟨(some 8), (.mv (.t 0)), none⟩, ⟨(some 9), (.callf 29 [(.t 8)]), none⟩, ⟨(some 10), (.bin .eql .ptr (.t 9) (.c (.d .nilp))), none⟩])
 (.cond (.t 10)
 (.seq (.reg [⟨(some 4), (.mv (.c (.d (.i .i64 1)))), none⟩])
 .ret)
 .skip))
 (.seq (.reg [⟨(some 11), (.mv (.t 0)), none⟩, ⟨(some 12), (.callf 132 [(.t 11)]), none⟩, ⟨(some 5), (.mv (.t 12)), none⟩])
 (.seq (.seq (.reg [⟨(some 13), (.mv (.t 5)), none⟩, ⟨(some 14), (.bin .rem .bad (.t 13) (.c (.d (.i .i64 2)))), none⟩, ⟨(some 15), (.bin .eql .bad (.t 14) (.c (.d (.i .i64 1)))), none⟩, ⟨(some 16), (.mv (.t 15)), none⟩, ⟨(some 17), (.mv (.t 5)), (some (16, false))⟩, ⟨(some 18), (.fadd 6 (.t 3)), (some (16, false))⟩, ⟨(some 19), (.load false 1 (.t 18)), (some (16, false))⟩, ⟨(some 20), (.len 1 (.t 19)), (some (16, false))⟩, ⟨(some 21), (.bin .mul .bad (.c (.d (.i .i64 2))) (.t 20)), (some (16, false))⟩, ⟨(some 22), (.bin .gtr .bad (.t 17) (.t 21)), (some (16, false))⟩, ⟨(some 23), (.pick (.t 16) (.c (.d (.b true))) (.t 22)), none⟩])
 (.cond (.t 23)
 (.seq (.reg [⟨(some 4), (.mv (.c (.d (.i .i64 2)))), none⟩])
 .ret)
 .skip))
 (.seq (.dreg 0 [⟨⟨(some 32), (.fadd 6 (.t 3)), none⟩, 7, false, [], none⟩, ⟨⟨(some 33), (.load false 1 (.t 32)), none⟩, 8, false, [], none⟩, ⟨⟨(some 34), (.mv (.t 5)), none⟩, 9, false, [], none⟩, ⟨⟨(some 35), (.bin .quo .bad (.t 34) (.c (.d (.i .i64 2)))), none⟩, 10, false, [], none⟩, ⟨⟨(some 36), (.callf 134 [(.t 33), (.t 35)]), none⟩, 11, true, [], none⟩, ⟨⟨(some 25), (.mv (.t 0)), none⟩, 0, false, [], none⟩, ⟨⟨(some 26), (.fadd 6 (.t 3)), none⟩, 1, false, [], none⟩, ⟨⟨(some 27), (.load false 1 (.t 26)), none⟩, 2, false, [], none⟩, ⟨⟨(some 28), (.len 1 (.t 27)), none⟩, 3, false, [], none⟩, ⟨⟨(some 29), (.bin .mul .bad (.c (.d (.i .i64 2))) (.t 28)), none⟩, 4, false, [], none⟩, ⟨⟨(some 30), (.mv (.t 5)), none⟩, 5, false, [], none⟩, ⟨⟨(some 31), (.bin .sub .bad (.t 29) (.t 30)), none⟩, 6, false, [], none⟩, ⟨⟨(some 37), (.callf 133 [(.t 25), (.t 31), (.t 36)]), none⟩, 12, true, [], none⟩, ⟨⟨(some 24), (.mv (.t 37)), none⟩, 13, false, [12, 11], none⟩, ⟨⟨(some 38), (.extr (.t 24) 0), none⟩, 14, false, [12, 11], none⟩, ⟨⟨(some 39), (.extr (.t 24) 1), none⟩, 15, false, [12, 11], none⟩, ⟨⟨(some 6), (.mv (.t 38)), none⟩, 16, false, [12, 11], none⟩, ⟨⟨(some 7), (.mv (.t 39)), none⟩, 17, false, [12, 11], none⟩])
 (.seq (.reg [⟨(some 40), (.mv (.t 7)), none⟩, ⟨(some 4), (.mv (.t 40)), none⟩])
 .ret)))))), false⟩
/-- slices.ContainsFunc[[]foreman/api.Item,foreman/api.Item] -/
def a70 : AFn := ⟨9, [.tmp 4],
 (.seq (.reg [⟨(some 4), (.mv (.c (.d (.b false)))), none⟩])
 (.seq (.reg [⟨(some 5), (.mv (.t 0)), none⟩, ⟨(some 6), (.mv (.t 1)), none⟩, ⟨(some 7), (.callf 135 [(.t 5), (.t 6)]), none⟩, ⟨(some 8), (.bin .geq .bad (.t 7) (.c (.d (.i .i64 0)))), none⟩, ⟨(some 4), (.mv (.t 8)), none⟩])
 .ret)), false⟩
/-- foreman/frag.Right$1 -/
def a71 : AFn := ⟨6, [.tmp 2],
 (.seq (.reg [⟨(some 1), (.box 58 (.t 0)), none⟩, ⟨(some 2), (.mv (.c (.d (.b false)))), none⟩])
 (.seq (.reg [⟨(some 3), (.load true 6 (.t 1)), none⟩, ⟨(some 4), (.callf 72 [(.t 3)]), none⟩, ⟨(some 5), (.un .not (.t 4)), none⟩, ⟨(some 2), (.mv (.t 5)), none⟩])
 .ret)), false⟩
/-- foreman/frag.fits -/
def a72 : AFn := ⟨44, [.tmp 2],
 (.seq (.reg [⟨(some 1), (.box 58 (.t 0)), none⟩, ⟨(some 2), (.mv (.c (.d (.b false)))), none⟩])
 (.seq (.seq (.reg [⟨(some 3), (.fadd 0 (.t 1)), none⟩, ⟨(some 4), (.load false 1 (.t 3)), none⟩, ⟨(some 5), (.callf 136 [(.t 4)]), none⟩, ⟨(some 6), (.un .not (.t 5)), none⟩, ⟨(some 7), (.mv (.t 6)), none⟩, ⟨(some 8), (.fadd 2 (.t 1)), (some (7, false))⟩, ⟨(some 9), (.load false 1 (.t 8)), (some (7, false))⟩, ⟨(some 10), (.len 1 (.t 9)), (some (7, false))⟩, ⟨(some 11), (.bin .gtr .bad (.t 10) (.c (.d (.i .i64 20)))), (some (7, false))⟩, ⟨(some 12), (.pick (.t 7) (.c (.d (.b true))) (.t 11)), none⟩, ⟨(some 13), (.mv (.t 12)), none⟩, ⟨(some 14), (.fadd 5 (.t 1)), (some (13, false))⟩, ⟨(some 15), (.load false 1 (.t 14)), (some (13, false))⟩, ⟨(some 16), (.callf 137 [(.t 15), (.c (.d (.i .i64 400)))]), (some (13, false))⟩, ⟨(some 17), (.un .not (.t 16)), (some (13, false))⟩, ⟨(some 18), (.pick (.t 13) (.c (.d (.b true))) (.t 17)), none⟩])
 (.cond (.t 18)
 (.seq (.reg [⟨(some 2), (.mv (.c (.d (.b false)))), none⟩])
 .ret)
 .skip))
 (.seq (.seq (.reg [⟨(some 19), (.fadd 2 (.t 1)), none⟩, ⟨(some 20), (.load false 1 (.t 19)), none⟩, ⟨(some 21), (.callf 138 [(.t 20), (.c (.d (.fn (.func 139) [] [])))]), none⟩])
 (.cond (.t 21)
 (.seq (.reg [⟨(some 2), (.mv (.c (.d (.b false)))), none⟩])
 .ret)
 .skip))
 (.seq (.seq (.reg [⟨(some 22), (.fadd 1 (.t 1)), none⟩, ⟨(some 23), (.load false 1 (.t 22)), none⟩])
 (.blk 0 (.seq (.reg [⟨(some 25), (.bin .eql .bad (.t 23) (.c (.d (.i .u8 0)))), none⟩, ⟨(some 24), (.mv (.t 25)), none⟩])
 (.cond (.t 24)
 (.seq (.reg [⟨(some 26), (.fadd 3 (.t 1)), none⟩, ⟨(some 27), (.load false 1 (.t 26)), none⟩, ⟨(some 28), (.bin .eql .bad (.t 27) (.c (.d (.s [])))), none⟩, ⟨(some 29), (.mv (.t 28)), none⟩, ⟨(some 30), (.fadd 4 (.t 1)), (some (29, true))⟩, ⟨(some 31), (.load false 1 (.t 30)), (some (29, true))⟩, ⟨(some 32), (.bin .eql .bad (.t 31) (.c (.d (.i .i64 0)))), (some (29, true))⟩, ⟨(some 33), (.pick (.t 29) (.t 32) (.c (.d (.b false)))), none⟩, ⟨(some 2), (.mv (.t 33)), none⟩])
 .ret)
 (.seq (.reg [⟨(some 35), (.bin .eql .bad (.t 23) (.c (.d (.i .u8 1)))), none⟩, ⟨(some 34), (.mv (.t 35)), none⟩])
 (.cond (.t 34)
 (.seq (.reg [⟨(some 36), (.fadd 3 (.t 1)), none⟩, ⟨(some 37), (.load false 1 (.t 36)), none⟩, ⟨(some 38), (.callf 136 [(.t 37)]), none⟩, ⟨(some 39), (.mv (.t 38)), none⟩, ⟨(some 40), (.fadd 4 (.t 1)), (some (39, true))⟩, ⟨(some 41), (.load false 1 (.t 40)), (some (39, true))⟩, ⟨(some 42), (.callf 137 [(.t 41), (.c (.d (.i .i64 40)))]), (some (39, true))⟩, ⟨(some 43), (.pick (.t 39) (.t 42) (.c (.d (.b false)))), none⟩, ⟨(some 2), (.mv (.t 43)), none⟩])
 .ret)
 .skip))))))
 (.seq (.reg [⟨(some 2), (.mv (.c (.d (.b false)))), none⟩])
 .ret))))), false⟩
/-- foreman/op.ID$1 -/
def a73 : AFn := ⟨9, [.tmp 2],
 (.seq (.reg [⟨(some 2), (.mv (.c (.d (.b false)))), none⟩])
 (.seq (.reg [⟨(some 3), (.mv (.t 0)), none⟩, ⟨(some 4), (.bin .lss .bad (.t 3) (.c (.d (.i .i32 33)))), none⟩, ⟨(some 5), (.mv (.t 4)), none⟩, ⟨(some 6), (.mv (.t 0)), (some (5, false))⟩, ⟨(some 7), (.bin .gtr .bad (.t 6) (.c (.d (.i .i32 126)))), (some (5, false))⟩, ⟨(some 8), (.pick (.t 5) (.c (.d (.b true))) (.t 7)), none⟩, ⟨(some 2), (.mv (.t 8)), none⟩])
 .ret)), false⟩
/-- strings.ContainsFunc -/
def a74 : AFn := ⟨9, [.tmp 4],
 (.seq (.reg [⟨(some 4), (.mv (.c (.d (.b false)))), none⟩])
 (.seq (.reg [⟨(some 5), (.mv (.t 0)), none⟩, ⟨(some 6), (.mv (.t 1)), none⟩, ⟨(some 7), (.callf 140 [(.t 5), (.t 6)]), none⟩, ⟨(some 8), (.bin .geq .bad (.t 7) (.c (.d (.i .i64 0)))), none⟩, ⟨(some 4), (.mv (.t 8)), none⟩])
 .ret)), false⟩
/-- (*foreman/value.room).fits -/
def a75 : AFn := ⟨33, [.tmp 6],
 (.seq (.reg [⟨(some 3), (.box 123 (.t 0)), none⟩, ⟨(some 4), (.box 24 (.t 1)), none⟩, ⟨(some 5), (.box 3 (.t 2)), none⟩, ⟨(some 6), (.mv (.c (.d (.b false)))), none⟩])
 (.seq (.seq (.reg [⟨(some 7), (.load false 1 (.t 3)), none⟩, ⟨(some 8), (.nilchk (.t 7)), none⟩, ⟨(some 9), (.fadd 0 (.t 8)), none⟩, ⟨(some 10), (.load false 1 (.t 9)), none⟩, ⟨(some 11), (.bin .sub .bad (.t 10) (.c (.d (.i .i64 1)))), none⟩, ⟨(some 12), (.nilchk (.t 7)), none⟩, ⟨(some 13), (.fadd 0 (.t 12)), none⟩, ⟨none, (.store 1 (.t 13) (.t 11)), none⟩])
 (.seq (.reg [⟨(some 14), (.load false 1 (.t 3)), none⟩, ⟨(some 15), (.nilchk (.t 14)), none⟩, ⟨(some 16), (.fadd 0 (.t 15)), none⟩, ⟨(some 17), (.load false 1 (.t 16)), none⟩, ⟨(some 18), (.bin .lss .bad (.t 17) (.c (.d (.i .i64 0)))), none⟩, ⟨(some 19), (.mv (.t 18)), none⟩, ⟨(some 20), (.load false 1 (.t 5)), (some (19, false))⟩, ⟨(some 21), (.bin .eql .bad (.t 20) (.c (.d (.i .i64 0)))), (some (19, false))⟩, ⟨(some 22), (.pick (.t 19) (.c (.d (.b true))) (.t 21)), none⟩, ⟨(some 23), (.mv (.t 22)), none⟩, ⟨(some 24), (.load true 4 (.t 4)), (some (23, false))⟩, ⟨(some 25), (.callf 141 [(.t 24)]), (some (23, false))⟩, ⟨(some 26), (.un .not (.t 25)), (some (23, false))⟩, ⟨(some 27), (.pick (.t 23) (.c (.d (.b true))) (.t 26)), none⟩])
 (.cond (.t 27)
 (.seq (.reg [⟨(some 6), (.mv (.c (.d (.b false)))), none⟩])
 .ret)
 .skip)))
 (.seq (.reg [⟨(some 28), (.fadd 3 (.t 4)), none⟩, ⟨(some 29), (.load false 1 (.t 28)), none⟩, ⟨(some 30), (.mkfn (.func 143) [] [(.t 3), (.t 5)]), none⟩, ⟨(some 31), (.callf 142 [(.t 29), (.t 30)]), none⟩, ⟨(some 32), (.un .not (.t 31)), none⟩, ⟨(some 6), (.mv (.t 32)), none⟩])
 .ret))), false⟩
/-- slices.EqualFunc[[]foreman/api.Value,[]foreman/api.Value,foreman/api.Value,foreman/api.Value] -/
def a76 : AFn := ⟨32, [.tmp 6],
 (.seq (.reg [⟨(some 6), (.mv (.c (.d (.b false)))), none⟩])
 (.seq (.seq (.reg [⟨(some 10), (.mv (.t 0)), none⟩, ⟨(some 11), (.len 1 (.t 10)), none⟩, ⟨(some 12), (.mv (.t 1)), none⟩, ⟨(some 13), (.len 1 (.t 12)), none⟩, ⟨(some 14), (.bin .neq .bad (.t 11) (.t 13)), none⟩])
 (.cond (.t 14)
 (.seq (.reg [⟨(some 6), (.mv (.c (.d (.b false)))), none⟩])
 .ret)
 .skip))
 (.seq (.seq (.reg [⟨(some 15), (.mv (.t 0)), none⟩, ⟨(some 16), (.len 1 (.t 15)), none⟩, ⟨(some 17), (.mv (.c (.d (.i .i64 0)))), none⟩])
 (.blk 0 (.loop (.seq (.reg [⟨(some 18), (.bin .lss .bad (.t 17) (.t 16)), none⟩])
 (.seq (.cond (.t 18)
 .skip
 (.exit 0))
 (.seq (.blk 1 (.seq (.reg [⟨(some 19), (.mv (.t 17)), none⟩, ⟨(some 20), (.iaS 4 (.t 15) (.t 17)), none⟩, ⟨(some 21), (.load true 4 (.t 20)), none⟩, ⟨(some 8), (.alloc 24 [(.d (.i .u8 0)), (.d (.i .i64 0)), (.d (.s [])), .nilsl]), none⟩, ⟨(some 7), (.mv (.t 19)), none⟩, ⟨none, (.store 4 (.t 8) (.t 21)), none⟩])
 (.seq (.reg [⟨(some 22), (.mv (.t 1)), none⟩, ⟨(some 23), (.mv (.t 7)), none⟩, ⟨(some 24), (.iaS 4 (.t 22) (.t 23)), none⟩, ⟨(some 25), (.load true 4 (.t 24)), none⟩, ⟨(some 9), (.alloc 24 [(.d (.i .u8 0)), (.d (.i .i64 0)), (.d (.s [])), .nilsl]), none⟩, ⟨none, (.store 4 (.t 9) (.t 25)), none⟩])
 (.seq (.reg [⟨(some 26), (.mv (.t 2)), none⟩, ⟨(some 27), (.load true 4 (.t 8)), none⟩, ⟨(some 28), (.load true 4 (.t 9)), none⟩, ⟨(some 29), (.callv (.t 26) [(.t 27), (.t 28)]), none⟩, ⟨(some 30), (.un .not (.t 29)), none⟩])
 (.cond (.t 30)
 (.seq (.reg [⟨(some 6), (.mv (.c (.d (.b false)))), none⟩])
 .ret)
 .skip)))))
 (.reg [⟨(some 31), (.bin .add .bad (.t 17) (.c (.d (.i .i64 1)))), none⟩, ⟨(some 17), (.mv (.t 31)), none⟩])))))))
 (.seq (.reg [⟨(some 6), (.mv (.c (.d (.b true)))), none⟩])
 .ret)))), false⟩
/-- foreman/check.Frag -/
def a77 : AFn := ⟨25, [.cell 10 false 1],
 (.seq (.reg [⟨(some 5), (.box 33 (.t 0)), none⟩, ⟨(some 10), (.alloc 42 [(.d (.i .i64 0))]), none⟩])
 (.seq (.seq (.reg [⟨(some 13), (.load true 5 (.t 5)), none⟩, ⟨(some 14), (.mv (.t 1)), none⟩, ⟨(some 15), (.mv (.t 2)), none⟩, ⟨(some 16), (.mv (.t 3)), none⟩, ⟨(some 17), (.mv (.t 4)), none⟩, ⟨(some 18), (.build [(.d (.i .i64 0)), (.d (.i .i64 0)), (.d (.i .i64 0)), (.d (.i .i64 0)), (.d (.i .i64 0)), .nilsl, (.d (.i .i64 0)), (.d (.i .i64 0)), .nilsl] [(0, 5, (.t 13)), (5, 1, (.t 14)), (6, 1, (.t 15)), (7, 1, (.t 16)), (8, 1, (.t 17))]), none⟩, ⟨(some 19), (.callf 144 [(.t 18)]), none⟩])
 (.blk 0 (.rfun (.t 19) [20, 21] (.seq (.reg [⟨(some 11), (.mv (.t 20)), none⟩])
 (.reg [⟨(some 12), (.mv (.t 21)), none⟩])) (.blk 1 (.seq (.reg [⟨(some 22), (.mv (.t 12)), none⟩, ⟨(some 23), (.callv (.t 22) []), none⟩])
 (.cond (.t 23)
 (.seq (.reg [⟨(some 24), (.mv (.t 11)), none⟩, ⟨none, (.store 1 (.t 10) (.t 24)), none⟩])
 .ret)
 .skip))))))
 (.seq (.reg [⟨none, (.store 1 (.t 10) (.c (.d (.i .i64 0)))), none⟩])
 .ret))), false⟩
/-- foreman/build.Make -/
def a78 : AFn := ⟨109, [.tmp 8, .tmp 9],
 (.seq (.reg [⟨(some 4), (.box 36 (.t 0)), none⟩, ⟨(some 6), (.box 3 (.t 2)), none⟩, ⟨(some 7), (.box 25 (.t 3)), none⟩, ⟨(some 8), (.mv (.c .nilsl)), none⟩, ⟨(some 9), (.mv (.c (.d (.i .i64 0)))), none⟩])
 (.seq (.seq (.reg [⟨(some 22), (.load false 1 (.t 7)), none⟩, ⟨(some 23), (.callf 35 [(.t 22)]), none⟩, ⟨(some 24), (.un .not (.t 23)), none⟩])
 (.cond (.t 24)
 (.seq (.reg [⟨(some 8), (.mv (.c .nilsl)), none⟩, ⟨(some 9), (.mv (.c (.d (.i .i64 2)))), none⟩])
 .ret)
 .skip))
 (.seq (.reg [⟨(some 10), (.alloc 42 [(.d (.i .i64 0))]), none⟩, ⟨none, (.store 1 (.t 10) (.c (.d (.i .i64 0)))), none⟩])
 (.seq (.reg [⟨(some 25), (.mkfn (.func 145) [] [(.t 4), (.t 6), (.t 7), (.t 10)]), none⟩, ⟨(some 11), (.mv (.t 25)), none⟩])
 (.seq (.reg [⟨(some 12), (.mv (.c .nilsl)), none⟩])
 (.seq (.reg [⟨(some 26), (.load true 8 (.t 4)), none⟩, ⟨(some 27), (.mv (.t 1)), none⟩, ⟨(some 28), (.load false 1 (.t 6)), none⟩, ⟨(some 29), (.callf 147 [(.t 26), (.t 27), (.t 28)]), none⟩, ⟨(some 13), (.mv (.t 29)), none⟩])
 (.seq (.seq (.reg [⟨(some 30), (.load false 1 (.t 7)), none⟩, ⟨(some 31), (.len 1 (.t 30)), none⟩, ⟨(some 32), (.mv (.c (.d (.i .i64 0)))), none⟩])
 (.blk 0 (.loop (.seq (.reg [⟨(some 33), (.bin .lss .bad (.t 32) (.t 31)), none⟩])
 (.seq (.cond (.t 33)
 .skip
 (.exit 0))
 (.seq (.blk 1 (.seq (.reg [⟨(some 34), (.iaS 6 (.t 30) (.t 32)), none⟩, ⟨(some 35), (.load true 6 (.t 34)), none⟩, ⟨(some 15), (.alloc 58 [(.d (.s [])), (.d (.i .u8 0)), .nilsl, (.d (.s [])), (.d (.i .i64 0)), (.d (.i .i64 0))]), none⟩, ⟨none, (.store 6 (.t 15) (.t 35)), none⟩])
 (.seq (.dreg 1 [⟨⟨(some 36), (.mv (.t 13)), none⟩, 0, false, [], none⟩, ⟨⟨(some 37), (.fadd 0 (.t 15)), none⟩, 1, false, [], none⟩, ⟨⟨(some 38), (.load false 1 (.t 37)), none⟩, 2, false, [], none⟩, ⟨⟨(some 39), (.callf 109 [(.t 36), (.t 38)]), none⟩, 3, true, [], none⟩, ⟨⟨(some 40), (.fadd 0 (.t 15)), none⟩, 4, false, [], none⟩, ⟨⟨(some 41), (.load false 1 (.t 40)), none⟩, 5, false, [], none⟩, ⟨⟨(some 42), (.fadd 1 (.t 15)), none⟩, 6, false, [], none⟩, ⟨⟨(some 43), (.load false 1 (.t 42)), none⟩, 7, false, [], none⟩, ⟨⟨(some 44), (.mv (.t 1)), none⟩, 8, false, [], none⟩, ⟨⟨(some 45), (.load false 1 (.t 6)), none⟩, 9, false, [], none⟩, ⟨⟨(some 46), (.fadd 4 (.t 15)), none⟩, 10, false, [], none⟩, ⟨⟨(some 47), (.load false 1 (.t 46)), none⟩, 11, false, [], none⟩, ⟨⟨(some 48), (.fadd 5 (.t 15)), none⟩, 12, false, [], none⟩, ⟨⟨(some 49), (.load false 1 (.t 48)), none⟩, 13, false, [], none⟩, ⟨⟨(some 50), (.build [(.d (.s [])), (.d (.s [])), (.d (.i .u8 0)), (.d (.i .i64 0)), (.d (.i .i64 0)), (.d (.i .i64 0)), .nilsl, (.d (.i .i64 0)), (.d (.i .i64 0)), (.d (.i .u8 0)), (.d (.i .i64 0)), (.d (.i .i64 0)), (.d (.i .u8 0)), (.d (.i .i64 0)), (.d (.s [])), .nilsl] [(0, 1, (.t 39)), (1, 1, (.t 41)), (2, 1, (.t 43)), (3, 1, (.t 44)), (4, 1, (.t 45)), (5, 1, (.c (.d (.i .i64 (-1))))), (7, 1, (.t 47)), (8, 1, (.t 49))]), none⟩, 14, false, [3], none⟩, ⟨⟨(some 16), (.alloc 64 [(.d (.s [])), (.d (.s [])), (.d (.i .u8 0)), (.d (.i .i64 0)), (.d (.i .i64 0)), (.d (.i .i64 0)), .nilsl, (.d (.i .i64 0)), (.d (.i .i64 0)), (.d (.i .u8 0)), (.d (.i .i64 0)), (.d (.i .i64 0)), (.d (.i .u8 0)), (.d (.i .i64 0)), (.d (.s [])), .nilsl]), none⟩, 15, false, [], (some 0)⟩, ⟨⟨none, (.store 16 (.t 16) (.t 50)), none⟩, 16, true, [], none⟩])
 (.seq (.seq (.reg [⟨(some 51), (.fadd 1 (.t 15)), none⟩, ⟨(some 52), (.load false 1 (.t 51)), none⟩, ⟨(some 53), (.bin .eql .bad (.t 52) (.c (.d (.i .u8 1)))), none⟩])
 (.cond (.t 53)
 (.dreg 1 [⟨⟨(some 56), (.mv (.t 11)), none⟩, 2, false, [], none⟩, ⟨⟨(some 57), (.fadd 3 (.t 15)), none⟩, 3, false, [], none⟩, ⟨⟨(some 58), (.load false 1 (.t 57)), none⟩, 4, false, [], none⟩, ⟨⟨(some 59), (.callv (.t 56) [(.t 58)]), none⟩, 5, true, [], none⟩, ⟨⟨(some 54), (.fadd 6 (.t 16)), none⟩, 0, false, [], none⟩, ⟨⟨(some 55), (.load false 1 (.t 54)), none⟩, 1, false, [], none⟩, ⟨⟨(some 60), (.bsl 3 1 1 [(.d (.i .i64 0))] [(0, 1, (.t 59))]), none⟩, 6, false, [], (some 0)⟩, ⟨⟨(some 61), (.app 3 1 8 false (.t 55) (.t 60)), none⟩, 7, true, [], none⟩, ⟨⟨(some 62), (.fadd 6 (.t 16)), none⟩, 8, false, [7, 5], none⟩, ⟨⟨none, (.store 1 (.t 62) (.t 61)), none⟩, 9, true, [], none⟩])
 .skip))
 (.seq (.seq (.reg [⟨(some 63), (.fadd 2 (.t 15)), none⟩, ⟨(some 64), (.load false 1 (.t 63)), none⟩, ⟨(some 65), (.len 1 (.t 64)), none⟩, ⟨(some 66), (.mv (.c (.d (.i .i64 0)))), none⟩])
 (.blk 2 (.loop (.seq (.reg [⟨(some 67), (.bin .lss .bad (.t 66) (.t 65)), none⟩])
 (.seq (.cond (.t 67)
 .skip
 (.exit 2))
 (.seq (.blk 3 (.seq (.reg [⟨(some 68), (.iaS 1 (.t 64) (.t 66)), none⟩, ⟨(some 69), (.load false 1 (.t 68)), none⟩, ⟨(some 18), (.mv (.t 69)), none⟩])
 (.dreg 1 [⟨⟨(some 72), (.mv (.t 11)), none⟩, 2, false, [], none⟩, ⟨⟨(some 73), (.mv (.t 18)), none⟩, 3, false, [], none⟩, ⟨⟨(some 74), (.callv (.t 72) [(.t 73)]), none⟩, 4, true, [], none⟩, ⟨⟨(some 70), (.fadd 6 (.t 16)), none⟩, 0, false, [], none⟩, ⟨⟨(some 71), (.load false 1 (.t 70)), none⟩, 1, false, [], none⟩, ⟨⟨(some 75), (.bsl 3 1 1 [(.d (.i .i64 0))] [(0, 1, (.t 74))]), none⟩, 5, false, [], (some 0)⟩, ⟨⟨(some 76), (.app 3 1 8 false (.t 71) (.t 75)), none⟩, 6, true, [], none⟩, ⟨⟨(some 77), (.fadd 6 (.t 16)), none⟩, 7, false, [6, 4], none⟩, ⟨⟨none, (.store 1 (.t 77) (.t 76)), none⟩, 8, true, [], none⟩])))
 (.reg [⟨(some 78), (.bin .add .bad (.t 66) (.c (.d (.i .i64 1)))), none⟩, ⟨(some 66), (.mv (.t 78)), none⟩])))))))
 (.reg [⟨(some 79), (.mv (.t 12)), none⟩, ⟨(some 80), (.load true 16 (.t 16)), none⟩, ⟨(some 81), (.bsl 64 16 1 [(.d (.s [])), (.d (.s [])), (.d (.i .u8 0)), (.d (.i .i64 0)), (.d (.i .i64 0)), (.d (.i .i64 0)), .nilsl, (.d (.i .i64 0)), (.d (.i .i64 0)), (.d (.i .u8 0)), (.d (.i .i64 0)), (.d (.i .i64 0)), (.d (.i .u8 0)), (.d (.i .i64 0)), (.d (.s [])), .nilsl] [(0, 16, (.t 80))]), none⟩, ⟨(some 82), (.app 64 16 184 false (.t 79) (.t 81)), none⟩, ⟨(some 12), (.mv (.t 82)), none⟩]))))))
 (.reg [⟨(some 83), (.bin .add .bad (.t 32) (.c (.d (.i .i64 1)))), none⟩, ⟨(some 32), (.mv (.t 83)), none⟩])))))))
 (.seq (.seq (.reg [⟨(some 84), (.load false 1 (.t 10)), none⟩, ⟨(some 85), (.bin .neq .bad (.t 84) (.c (.d (.i .i64 0)))), none⟩])
 (.cond (.t 85)
 (.seq (.dreg 0 [⟨⟨(some 86), (.load false 1 (.t 10)), none⟩, 0, false, [], none⟩, ⟨⟨(some 8), (.mv (.c .nilsl)), none⟩, 1, false, [], none⟩, ⟨⟨(some 9), (.mv (.t 86)), none⟩, 2, false, [], none⟩])
 .ret)
 .skip))
 (.seq (.seq (.reg [⟨(some 87), (.mv (.t 12)), none⟩, ⟨(some 88), (.len 1 (.t 87)), none⟩, ⟨(some 89), (.mv (.c (.d (.i .i64 0)))), none⟩])
 (.blk 4 (.loop (.seq (.reg [⟨(some 90), (.bin .lss .bad (.t 89) (.t 88)), none⟩])
 (.seq (.cond (.t 90)
 .skip
 (.exit 4))
 (.seq (.blk 5 (.seq (.reg [⟨(some 91), (.iaS 16 (.t 87) (.t 89)), none⟩, ⟨(some 92), (.load true 16 (.t 91)), none⟩, ⟨(some 20), (.alloc 64 [(.d (.s [])), (.d (.s [])), (.d (.i .u8 0)), (.d (.i .i64 0)), (.d (.i .i64 0)), (.d (.i .i64 0)), .nilsl, (.d (.i .i64 0)), (.d (.i .i64 0)), (.d (.i .u8 0)), (.d (.i .i64 0)), (.d (.i .i64 0)), (.d (.i .u8 0)), (.d (.i .i64 0)), (.d (.s [])), .nilsl]), none⟩, ⟨none, (.store 16 (.t 20) (.t 92)), none⟩])
 (.seq (.seq (.reg [⟨(some 93), (.fadd 2 (.t 20)), none⟩, ⟨(some 94), (.load false 1 (.t 93)), none⟩, ⟨(some 95), (.bin .neq .bad (.t 94) (.c (.d (.i .u8 1)))), none⟩])
 (.cond (.t 95)
 (.exit 5)
 .skip))
 (.seq (.dreg 0 [⟨⟨(some 96), (.load true 8 (.t 4)), none⟩, 0, false, [], none⟩, ⟨⟨(some 97), (.fadd 6 (.t 20)), none⟩, 1, false, [], none⟩, ⟨⟨(some 98), (.load false 1 (.t 97)), none⟩, 2, false, [], none⟩, ⟨⟨(some 99), (.iaS 1 (.t 98) (.c (.d (.i .i64 0)))), none⟩, 3, false, [], none⟩, ⟨⟨(some 100), (.load false 1 (.t 99)), none⟩, 4, false, [], none⟩, ⟨⟨(some 101), (.fadd 7 (.t 20)), none⟩, 5, false, [], none⟩, ⟨⟨(some 102), (.load false 1 (.t 101)), none⟩, 6, false, [], none⟩, ⟨⟨(some 103), (.callf 148 [(.t 96), (.t 100), (.t 102)]), none⟩, 7, true, [], none⟩, ⟨⟨(some 21), (.mv (.t 103)), none⟩, 8, false, [7], none⟩])
 (.seq (.reg [⟨(some 104), (.mv (.t 21)), none⟩, ⟨(some 105), (.bin .neq .bad (.t 104) (.c (.d (.i .i64 0)))), none⟩])
 (.cond (.t 105)
 (.seq (.reg [⟨(some 106), (.mv (.t 21)), none⟩, ⟨(some 8), (.mv (.c .nilsl)), none⟩, ⟨(some 9), (.mv (.t 106)), none⟩])
 .ret)
 .skip))))))
 (.reg [⟨(some 107), (.bin .add .bad (.t 89) (.c (.d (.i .i64 1)))), none⟩, ⟨(some 89), (.mv (.t 107)), none⟩])))))))
 (.seq (.reg [⟨(some 108), (.mv (.t 12)), none⟩, ⟨(some 8), (.mv (.t 108)), none⟩, ⟨(some 9), (.mv (.c (.d (.i .i64 0)))), none⟩])
 .ret)))))))))), false⟩
/-- foreman/build.Put -/
def a79 : AFn := ⟨42, [.cell 6 true 8, .tmp 7],
 (.seq (.reg [⟨(some 4), (.box 36 (.t 1)), none⟩, ⟨(some 6), (.alloc 36 [(.d (.i .i64 0)), (.d (.i .i64 0)), (.d (.i .i64 0)), (.d (.i .i64 0)), (.d (.i .i64 0)), (.d (.i .i64 0)), .nilsl, (.d (.i .i64 0))]), none⟩, ⟨(some 7), (.mv (.c (.d (.i .i64 0)))), none⟩])
 (.seq (.reg [⟨(some 11), (.load true 8 (.t 4)), none⟩, ⟨(some 12), (.callf 27 [(.t 11)]), none⟩, ⟨(some 8), (.alloc 36 [(.d (.i .i64 0)), (.d (.i .i64 0)), (.d (.i .i64 0)), (.d (.i .i64 0)), (.d (.i .i64 0)), (.d (.i .i64 0)), .nilsl, (.d (.i .i64 0))]), none⟩, ⟨none, (.store 8 (.t 8) (.t 12)), none⟩])
 (.seq (.dreg 1 [⟨⟨(some 15), (.mv (.t 2)), none⟩, 2, false, [], none⟩, ⟨⟨(some 16), (.build [(.d (.i .i64 0)), (.d (.i .i64 0)), (.d (.i .i64 0)), (.d (.i .i64 0)), (.d (.i .i64 0)), (.d (.i .i64 0)), .nilsl, (.d (.i .i64 0))] [(6, 1, (.t 15))]), none⟩, 3, false, [], none⟩, ⟨⟨(some 17), (.callf 27 [(.t 16)]), none⟩, 4, true, [], none⟩, ⟨⟨(some 13), (.fadd 6 (.t 8)), none⟩, 0, false, [], none⟩, ⟨⟨(some 14), (.load false 1 (.t 13)), none⟩, 1, false, [], none⟩, ⟨⟨(some 18), (.fld 6 false 1 (.t 17)), none⟩, 5, false, [4], none⟩, ⟨⟨(some 19), (.bsl 34 1 2 [.nilsl] [(0, 1, (.t 14)), (1, 1, (.t 18))]), none⟩, 6, false, [], (some 0)⟩, ⟨⟨(some 20), (.callf 149 [(.t 19)]), none⟩, 7, true, [], none⟩, ⟨⟨(some 21), (.fadd 6 (.t 8)), none⟩, 8, false, [7, 4], none⟩, ⟨⟨none, (.store 1 (.t 21) (.t 20)), none⟩, 9, true, [], none⟩])
 (.seq (.seq (.reg [⟨(some 23), (.mv (.t 0)), none⟩, ⟨(some 24), (.mv (.t 2)), none⟩, ⟨(some 25), (.len 1 (.t 24)), none⟩, ⟨(some 26), (.bin .mul .bad (.c (.d (.i .i64 2))) (.t 25)), none⟩, ⟨(some 27), (.fadd 6 (.t 8)), none⟩, ⟨(some 28), (.load false 1 (.t 27)), none⟩, ⟨(some 29), (.fadd 6 (.t 4)), none⟩, ⟨(some 30), (.load false 1 (.t 29)), none⟩, ⟨(some 31), (.len 1 (.t 30)), none⟩, ⟨(some 32), (.callf 134 [(.t 28), (.t 31)]), none⟩, ⟨(some 33), (.callf 133 [(.t 23), (.t 26), (.t 32)]), none⟩, ⟨(some 22), (.mv (.t 33)), none⟩, ⟨(some 34), (.extr (.t 22) 0), none⟩, ⟨(some 35), (.extr (.t 22) 1), none⟩, ⟨(some 9), (.mv (.t 34)), none⟩, ⟨(some 10), (.mv (.t 35)), none⟩])
 (.seq (.reg [⟨(some 36), (.mv (.t 10)), none⟩, ⟨(some 37), (.bin .neq .bad (.t 36) (.c (.d (.i .i64 0)))), none⟩])
 (.cond (.t 37)
 (.seq (.reg [⟨(some 38), (.load true 8 (.t 4)), none⟩, ⟨(some 39), (.callf 27 [(.t 38)]), none⟩, ⟨(some 40), (.mv (.t 10)), none⟩, ⟨none, (.store 8 (.t 6) (.t 39)), none⟩, ⟨(some 7), (.mv (.t 40)), none⟩])
 .ret)
 .skip)))
 (.seq (.reg [⟨(some 41), (.load true 8 (.t 8)), none⟩, ⟨none, (.store 8 (.t 6) (.t 41)), none⟩, ⟨(some 7), (.mv (.c (.d (.i .i64 0)))), none⟩])
 .ret))))), false⟩
/-- foreman/join.Settle -/
def a80 : AFn := ⟨22, [.cell 2 true 8],
 (.seq (.reg [⟨(some 1), (.box 36 (.t 0)), none⟩, ⟨(some 2), (.alloc 36 [(.d (.i .i64 0)), (.d (.i .i64 0)), (.d (.i .i64 0)), (.d (.i .i64 0)), (.d (.i .i64 0)), (.d (.i .i64 0)), .nilsl, (.d (.i .i64 0))]), none⟩])
 (.seq (.reg [⟨(some 4), (.load true 8 (.t 1)), none⟩, ⟨(some 5), (.callf 95 [(.t 4)]), none⟩, ⟨none, (.store 8 (.t 1) (.t 5)), none⟩])
 (.seq (.seq (.reg [⟨(some 6), (.load true 8 (.t 1)), none⟩, ⟨(some 7), (.callf 150 [(.t 6)]), none⟩, ⟨(some 3), (.mv (.t 7)), none⟩])
 (.blk 0 (.loop (.seq (.seq (.reg [⟨(some 8), (.mv (.t 3)), none⟩, ⟨(some 9), (.len 1 (.t 8)), none⟩, ⟨(some 10), (.bin .gtr .bad (.t 9) (.c (.d (.i .i64 0)))), none⟩])
 (.cond (.t 10)
 .skip
 (.exit 0)))
 (.seq (.blk 1 (.dreg 0 [⟨⟨(some 14), (.load true 8 (.t 1)), none⟩, 0, false, [], none⟩, ⟨⟨(some 15), (.mv (.t 3)), none⟩, 1, false, [], none⟩, ⟨⟨(some 16), (.iaS 1 (.t 15) (.c (.d (.i .i64 0)))), none⟩, 2, false, [], none⟩, ⟨⟨(some 17), (.load false 1 (.t 16)), none⟩, 3, false, [], none⟩, ⟨⟨(some 18), (.callf 151 [(.t 14), (.t 17)]), none⟩, 4, true, [], none⟩, ⟨⟨(some 13), (.mv (.t 18)), none⟩, 5, false, [4], none⟩, ⟨⟨(some 19), (.extr (.t 13) 0), none⟩, 6, false, [4], none⟩, ⟨⟨none, (.store 8 (.t 1) (.t 19)), none⟩, 8, true, [], none⟩, ⟨⟨(some 20), (.extr (.t 13) 1), none⟩, 7, false, [4], none⟩]))
 (.reg [⟨(some 11), (.load true 8 (.t 1)), none⟩, ⟨(some 12), (.callf 150 [(.t 11)]), none⟩, ⟨(some 3), (.mv (.t 12)), none⟩]))))))
 (.seq (.reg [⟨(some 21), (.load true 8 (.t 1)), none⟩, ⟨none, (.store 8 (.t 2) (.t 21)), none⟩])
 .ret)))), false⟩
/-- foreman/flow.own -/
def a81 : AFn := ⟨33, [.tmp 6],
 (.seq (.reg [⟨(some 3), (.box 36 (.t 0)), none⟩, ⟨(some 6), (.mv (.c .nilsl)), none⟩])
 (.seq (.reg [⟨(some 7), (.mv (.c .nilsl)), none⟩])
 (.seq (.seq (.reg [⟨(some 10), (.fadd 6 (.t 3)), none⟩, ⟨(some 11), (.load false 1 (.t 10)), none⟩, ⟨(some 12), (.len 1 (.t 11)), none⟩, ⟨(some 13), (.mv (.c (.d (.i .i64 0)))), none⟩])
 (.blk 0 (.loop (.seq (.reg [⟨(some 14), (.bin .lss .bad (.t 13) (.t 12)), none⟩])
 (.seq (.cond (.t 14)
 .skip
 (.exit 0))
 (.seq (.blk 1 (.seq (.reg [⟨(some 15), (.iaS 16 (.t 11) (.t 13)), none⟩, ⟨(some 16), (.load true 16 (.t 15)), none⟩, ⟨(some 9), (.alloc 64 [(.d (.s [])), (.d (.s [])), (.d (.i .u8 0)), (.d (.i .i64 0)), (.d (.i .i64 0)), (.d (.i .i64 0)), .nilsl, (.d (.i .i64 0)), (.d (.i .i64 0)), (.d (.i .u8 0)), (.d (.i .i64 0)), (.d (.i .i64 0)), (.d (.i .u8 0)), (.d (.i .i64 0)), (.d (.s [])), .nilsl]), none⟩, ⟨none, (.store 16 (.t 9) (.t 16)), none⟩])
 (.seq (.reg [⟨(some 17), (.fadd 3 (.t 9)), none⟩, ⟨(some 18), (.load false 1 (.t 17)), none⟩, ⟨(some 19), (.mv (.t 1)), none⟩, ⟨(some 20), (.bin .eql .bad (.t 18) (.t 19)), none⟩, ⟨(some 21), (.mv (.t 20)), none⟩, ⟨(some 22), (.fadd 4 (.t 9)), (some (21, true))⟩, ⟨(some 23), (.load false 1 (.t 22)), (some (21, true))⟩, ⟨(some 24), (.mv (.t 2)), (some (21, true))⟩, ⟨(some 25), (.bin .eql .bad (.t 23) (.t 24)), (some (21, true))⟩, ⟨(some 26), (.pick (.t 21) (.t 25) (.c (.d (.b false)))), none⟩])
 (.cond (.t 26)
 (.reg [⟨(some 27), (.mv (.t 7)), none⟩, ⟨(some 28), (.load true 16 (.t 9)), none⟩, ⟨(some 29), (.bsl 64 16 1 [(.d (.s [])), (.d (.s [])), (.d (.i .u8 0)), (.d (.i .i64 0)), (.d (.i .i64 0)), (.d (.i .i64 0)), .nilsl, (.d (.i .i64 0)), (.d (.i .i64 0)), (.d (.i .u8 0)), (.d (.i .i64 0)), (.d (.i .i64 0)), (.d (.i .u8 0)), (.d (.i .i64 0)), (.d (.s [])), .nilsl] [(0, 16, (.t 28))]), none⟩, ⟨(some 30), (.app 64 16 184 false (.t 27) (.t 29)), none⟩, ⟨(some 7), (.mv (.t 30)), none⟩])
 .skip))))
 (.reg [⟨(some 31), (.bin .add .bad (.t 13) (.c (.d (.i .i64 1)))), none⟩, ⟨(some 13), (.mv (.t 31)), none⟩])))))))
 (.seq (.reg [⟨(some 32), (.mv (.t 7)), none⟩, ⟨(some 6), (.mv (.t 32)), none⟩])
 .ret)))), false⟩
/-- foreman/flow.all -/
def a82 : AFn := ⟨9, [.tmp 4],
 (.seq (.reg [⟨(some 3), (.box 102 (.t 1)), none⟩, ⟨(some 4), (.mv (.c (.d (.b false)))), none⟩])
 (.seq (.reg [⟨(some 5), (.mv (.t 0)), none⟩, ⟨(some 6), (.mkfn (.func 152) [] [(.t 3)]), none⟩, ⟨(some 7), (.callf 102 [(.t 5), (.t 6)]), none⟩, ⟨(some 8), (.un .not (.t 7)), none⟩, ⟨(some 4), (.mv (.t 8)), none⟩])
 .ret)), false⟩
/-- foreman/flow.not -/
def a83 : AFn := ⟨4, [.tmp 2],
 (.seq (.reg [⟨(some 1), (.box 102 (.t 0)), none⟩, ⟨(some 2), (.mv (.c (.d .nilf))), none⟩])
 (.seq (.reg [⟨(some 3), (.mkfn (.func 153) [] [(.t 1)]), none⟩, ⟨(some 2), (.mv (.t 3)), none⟩])
 .ret)), false⟩
/-- foreman/flow.is -/
def a84 : AFn := ⟨4, [.tmp 2],
 (.seq (.reg [⟨(some 1), (.box 5 (.t 0)), none⟩, ⟨(some 2), (.mv (.c (.d .nilf))), none⟩])
 (.seq (.reg [⟨(some 3), (.mkfn (.func 154) [] [(.t 1)]), none⟩, ⟨(some 2), (.mv (.t 3)), none⟩])
 .ret)), false⟩
/-- foreman/fan.place -/
def a85 : AFn := ⟨13, [.tmp 4],
 (.seq (.reg [⟨(some 4), (.mv (.c (.d (.b false)))), none⟩])
 (.seq (.reg [⟨(some 5), (.mv (.t 1)), none⟩, ⟨(some 6), (.bin .geq .bad (.t 5) (.c (.d (.i .i64 0)))), none⟩, ⟨(some 7), (.mv (.t 6)), none⟩, ⟨(some 8), (.mv (.t 1)), (some (7, true))⟩, ⟨(some 9), (.mv (.t 0)), (some (7, true))⟩, ⟨(some 10), (.len 1 (.t 9)), (some (7, true))⟩, ⟨(some 11), (.bin .lss .bad (.t 8) (.t 10)), (some (7, true))⟩, ⟨(some 12), (.pick (.t 7) (.t 11) (.c (.d (.b false)))), none⟩, ⟨(some 4), (.mv (.t 12)), none⟩])
 .ret)), false⟩
/-- foreman/join.Miss -/
def a88 : AFn := ⟨38, [.cell 4 true 8],
 (.seq (.reg [⟨(some 2), (.box 36 (.t 0)), none⟩, ⟨(some 4), (.alloc 36 [(.d (.i .i64 0)), (.d (.i .i64 0)), (.d (.i .i64 0)), (.d (.i .i64 0)), (.d (.i .i64 0)), (.d (.i .i64 0)), .nilsl, (.d (.i .i64 0))]), none⟩])
 (.seq (.seq (.reg [⟨(some 5), (.load true 8 (.t 2)), none⟩, ⟨(some 6), (.callf 95 [(.t 5)]), none⟩, ⟨none, (.store 8 (.t 2) (.t 6)), none⟩])
 (.seq (.reg [⟨(some 7), (.load true 8 (.t 2)), none⟩, ⟨(some 8), (.mv (.t 1)), none⟩, ⟨(some 9), (.callf 96 [(.t 7), (.t 8)]), none⟩, ⟨(some 10), (.un .not (.t 9)), none⟩])
 (.cond (.t 10)
 (.seq (.reg [⟨(some 11), (.load true 8 (.t 2)), none⟩, ⟨none, (.store 8 (.t 4) (.t 11)), none⟩])
 .ret)
 .skip)))
 (.seq (.reg [⟨(some 12), (.fadd 6 (.t 2)), none⟩, ⟨(some 13), (.load false 1 (.t 12)), none⟩, ⟨(some 14), (.mv (.t 1)), none⟩, ⟨(some 15), (.iaS 16 (.t 13) (.t 14)), none⟩, ⟨(some 16), (.fadd 10 (.t 15)), none⟩, ⟨(some 17), (.load false 1 (.t 16)), none⟩, ⟨(some 18), (.bin .add .bad (.t 17) (.c (.d (.i .i64 1)))), none⟩, ⟨(some 19), (.iaS 16 (.t 13) (.t 14)), none⟩, ⟨(some 20), (.fadd 10 (.t 19)), none⟩, ⟨none, (.store 1 (.t 20) (.t 18)), none⟩])
 (.seq (.seq (.dreg 0 [⟨⟨(some 21), (.fadd 6 (.t 2)), none⟩, 0, false, [], none⟩, ⟨⟨(some 22), (.load false 1 (.t 21)), none⟩, 1, false, [], none⟩, ⟨⟨(some 23), (.mv (.t 1)), none⟩, 2, false, [], none⟩, ⟨⟨(some 24), (.iaS 16 (.t 22) (.t 23)), none⟩, 3, false, [], none⟩, ⟨⟨(some 25), (.fadd 10 (.t 24)), none⟩, 4, false, [], none⟩, ⟨⟨(some 26), (.load false 1 (.t 25)), none⟩, 5, false, [], none⟩, ⟨⟨(some 27), (.fadd 0 (.t 2)), none⟩, 6, false, [], none⟩, ⟨⟨(some 28), (.fadd 3 (.t 27)), none⟩, 7, false, [], none⟩, ⟨⟨(some 29), (.load false 1 (.t 28)), none⟩, 8, false, [], none⟩, ⟨⟨(some 30), (.bin .gtr .bad (.t 26) (.t 29)), none⟩, 9, false, [], none⟩])
 (.cond (.t 30)
 (.reg [⟨(some 31), (.load true 8 (.t 2)), none⟩, ⟨(some 32), (.mv (.t 1)), none⟩, ⟨(some 33), (.callf 97 [(.t 31), (.t 32), (.c (.d (.i .u8 5)))]), none⟩])
 (.reg [⟨(some 34), (.load true 8 (.t 2)), none⟩, ⟨(some 35), (.mv (.t 1)), none⟩, ⟨(some 36), (.callf 156 [(.t 34), (.t 35), (.c (.d (.i .u8 1)))]), none⟩])))
 (.seq (.reg [⟨(some 37), (.load true 8 (.t 2)), none⟩, ⟨none, (.store 8 (.t 4) (.t 37)), none⟩])
 .ret))))), false⟩
/-- strings.SplitSeq -/
def a89 : AFn := ⟨8, [.tmp 4],
 (.seq (.reg [⟨(some 4), (.mv (.c (.d .nilf))), none⟩])
 (.seq (.reg [⟨(some 5), (.mv (.t 0)), none⟩, ⟨(some 6), (.mv (.t 1)), none⟩, ⟨(some 7), (.callf 157 [(.t 5), (.t 6), (.c (.d (.i .i64 0)))]), none⟩, ⟨(some 4), (.mv (.t 7)), none⟩])
 .ret)), true⟩
/-- foreman/ident.number -/
def a90 : AFn := ⟨24, [.tmp 2],
 (.seq (.reg [⟨(some 2), (.mv (.c (.d (.i .i64 0)))), none⟩])
 (.seq (.reg [⟨(some 6), (.mv (.t 0)), none⟩, ⟨(some 7), (.callf 158 [(.t 6)]), none⟩, ⟨(some 5), (.mv (.t 7)), none⟩, ⟨(some 8), (.extr (.t 5) 0), none⟩, ⟨(some 9), (.extr (.t 5) 1), none⟩, ⟨(some 3), (.mv (.t 8)), none⟩, ⟨(some 4), (.mv (.t 9)), none⟩])
 (.seq (.seq (.reg [⟨(some 10), (.mv (.t 4)), none⟩, ⟨(some 11), (.bin .neq .iface (.t 10) (.c (.d .nili))), none⟩, ⟨(some 12), (.mv (.t 11)), none⟩, ⟨(some 13), (.mv (.t 3)), (some (12, false))⟩, ⟨(some 14), (.callf 159 [(.t 13)]), (some (12, false))⟩, ⟨(some 15), (.un .not (.t 14)), (some (12, false))⟩, ⟨(some 16), (.pick (.t 12) (.c (.d (.b true))) (.t 15)), none⟩, ⟨(some 17), (.mv (.t 16)), none⟩, ⟨(some 18), (.mv (.t 3)), (some (17, false))⟩, ⟨(some 19), (.callf 160 [(.t 18)]), (some (17, false))⟩, ⟨(some 20), (.mv (.t 0)), (some (17, false))⟩, ⟨(some 21), (.bin .neq .bad (.t 19) (.t 20)), (some (17, false))⟩, ⟨(some 22), (.pick (.t 17) (.c (.d (.b true))) (.t 21)), none⟩])
 (.cond (.t 22)
 (.seq (.reg [⟨(some 2), (.mv (.c (.d (.i .i64 (-1))))), none⟩])
 .ret)
 .skip))
 (.seq (.reg [⟨(some 23), (.mv (.t 3)), none⟩, ⟨(some 2), (.mv (.t 23)), none⟩])
 .ret)))), false⟩
/-- slices.IndexFunc[[]foreman/api.Node,foreman/api.Node] -/
def a93 : AFn := ⟨19, [.tmp 4],
 (.seq (.reg [⟨(some 4), (.mv (.c (.d (.i .i64 0)))), none⟩])
 (.seq (.seq (.reg [⟨(some 6), (.mv (.t 0)), none⟩, ⟨(some 7), (.len 1 (.t 6)), none⟩, ⟨(some 8), (.mv (.c (.d (.i .i64 0)))), none⟩])
 (.blk 0 (.loop (.seq (.reg [⟨(some 9), (.bin .lss .bad (.t 8) (.t 7)), none⟩])
 (.seq (.cond (.t 9)
 .skip
 (.exit 0))
 (.seq (.blk 1 (.seq (.reg [⟨(some 10), (.mv (.t 8)), none⟩, ⟨(some 5), (.mv (.t 10)), none⟩])
 (.seq (.reg [⟨(some 11), (.mv (.t 1)), none⟩, ⟨(some 12), (.mv (.t 0)), none⟩, ⟨(some 13), (.mv (.t 5)), none⟩, ⟨(some 14), (.iaS 16 (.t 12) (.t 13)), none⟩, ⟨(some 15), (.load true 16 (.t 14)), none⟩, ⟨(some 16), (.callv (.t 11) [(.t 15)]), none⟩])
 (.cond (.t 16)
 (.seq (.reg [⟨(some 17), (.mv (.t 5)), none⟩, ⟨(some 4), (.mv (.t 17)), none⟩])
 .ret)
 .skip))))
 (.reg [⟨(some 18), (.bin .add .bad (.t 8) (.c (.d (.i .i64 1)))), none⟩, ⟨(some 8), (.mv (.t 18)), none⟩])))))))
 (.seq (.reg [⟨(some 4), (.mv (.c (.d (.i .i64 (-1))))), none⟩])
 .ret))), false⟩
/-- foreman/flow.Find$1 -/
def a94 : AFn := ⟨8, [.tmp 3],
 (.seq (.reg [⟨(some 2), (.box 64 (.t 0)), none⟩, ⟨(some 3), (.mv (.c (.d (.b false)))), none⟩])
 (.seq (.reg [⟨(some 4), (.fadd 0 (.t 2)), none⟩, ⟨(some 5), (.load false 1 (.t 4)), none⟩, ⟨(some 6), (.load false 1 (.t 1)), none⟩, ⟨(some 7), (.bin .eql .bad (.t 5) (.t 6)), none⟩, ⟨(some 3), (.mv (.t 7)), none⟩])
 .ret)), false⟩
/-- foreman/join.own -/
def a95 : AFn := ⟨37, [.cell 2 true 8],
 (.seq (.reg [⟨(some 1), (.box 36 (.t 0)), none⟩, ⟨(some 2), (.alloc 36 [(.d (.i .i64 0)), (.d (.i .i64 0)), (.d (.i .i64 0)), (.d (.i .i64 0)), (.d (.i .i64 0)), (.d (.i .i64 0)), .nilsl, (.d (.i .i64 0))]), none⟩])
 (.seq (.reg [⟨(some 5), (.fadd 6 (.t 1)), none⟩, ⟨(some 6), (.load false 1 (.t 5)), none⟩, ⟨(some 7), (.clone 53 64 16 184 true (.t 6)), none⟩, ⟨(some 8), (.fadd 6 (.t 1)), none⟩, ⟨none, (.store 1 (.t 8) (.t 7)), none⟩])
 (.seq (.seq (.reg [⟨(some 9), (.fadd 6 (.t 1)), none⟩, ⟨(some 10), (.load false 1 (.t 9)), none⟩, ⟨(some 11), (.len 1 (.t 10)), none⟩, ⟨(some 12), (.mv (.c (.d (.i .i64 0)))), none⟩])
 (.blk 0 (.loop (.seq (.reg [⟨(some 13), (.bin .lss .bad (.t 12) (.t 11)), none⟩])
 (.seq (.cond (.t 13)
 .skip
 (.exit 0))
 (.seq (.blk 1 (.seq (.reg [⟨(some 14), (.mv (.t 12)), none⟩, ⟨(some 3), (.mv (.t 14)), none⟩])
 (.seq (.reg [⟨(some 15), (.fadd 6 (.t 1)), none⟩, ⟨(some 16), (.load false 1 (.t 15)), none⟩, ⟨(some 17), (.mv (.t 3)), none⟩, ⟨(some 18), (.iaS 16 (.t 16) (.t 17)), none⟩, ⟨(some 4), (.mv (.t 18)), none⟩])
 (.dreg 0 [⟨⟨(some 21), (.mv (.t 4)), none⟩, 2, false, [], none⟩, ⟨⟨(some 22), (.nilchk (.t 21)), none⟩, 3, false, [], none⟩, ⟨⟨(some 23), (.fadd 6 (.t 22)), none⟩, 4, false, [], none⟩, ⟨⟨(some 24), (.load false 1 (.t 23)), none⟩, 5, false, [], none⟩, ⟨⟨(some 25), (.clone 54 3 1 8 false (.t 24)), none⟩, 6, true, [], none⟩, ⟨⟨(some 26), (.mv (.t 4)), none⟩, 7, false, [], none⟩, ⟨⟨(some 27), (.nilchk (.t 26)), none⟩, 8, false, [], none⟩, ⟨⟨(some 28), (.fadd 12 (.t 27)), none⟩, 9, false, [], none⟩, ⟨⟨(some 29), (.load true 4 (.t 28)), none⟩, 10, false, [], none⟩, ⟨⟨(some 30), (.callf 47 [(.t 29)]), none⟩, 11, true, [], none⟩, ⟨⟨(some 19), (.mv (.t 4)), none⟩, 0, false, [], none⟩, ⟨⟨(some 31), (.nilchk (.t 19)), none⟩, 12, false, [11, 6], none⟩, ⟨⟨(some 32), (.fadd 6 (.t 31)), none⟩, 13, false, [11, 6], none⟩, ⟨⟨none, (.store 1 (.t 32) (.t 25)), none⟩, 14, true, [], none⟩, ⟨⟨(some 20), (.mv (.t 4)), none⟩, 1, false, [], none⟩, ⟨⟨(some 33), (.nilchk (.t 20)), none⟩, 15, false, [14, 11, 6], none⟩, ⟨⟨(some 34), (.fadd 12 (.t 33)), none⟩, 16, false, [14, 11, 6], none⟩, ⟨⟨none, (.store 4 (.t 34) (.t 30)), none⟩, 17, true, [], none⟩]))))
 (.reg [⟨(some 35), (.bin .add .bad (.t 12) (.c (.d (.i .i64 1)))), none⟩, ⟨(some 12), (.mv (.t 35)), none⟩])))))))
 (.seq (.reg [⟨(some 36), (.load true 8 (.t 1)), none⟩, ⟨none, (.store 8 (.t 2) (.t 36)), none⟩])
 .ret)))), false⟩
/-- foreman/join.is -/
def a96 : AFn := ⟨14, [.tmp 4],
 (.seq (.reg [⟨(some 2), (.box 36 (.t 0)), none⟩, ⟨(some 4), (.mv (.c (.d (.b false)))), none⟩])
 (.seq (.reg [⟨(some 5), (.mv (.t 1)), none⟩, ⟨(some 6), (.bin .geq .bad (.t 5) (.c (.d (.i .i64 0)))), none⟩, ⟨(some 7), (.mv (.t 6)), none⟩, ⟨(some 8), (.mv (.t 1)), (some (7, true))⟩, ⟨(some 9), (.fadd 6 (.t 2)), (some (7, true))⟩, ⟨(some 10), (.load false 1 (.t 9)), (some (7, true))⟩, ⟨(some 11), (.len 1 (.t 10)), (some (7, true))⟩, ⟨(some 12), (.bin .lss .bad (.t 8) (.t 11)), (some (7, true))⟩, ⟨(some 13), (.pick (.t 7) (.t 12) (.c (.d (.b false)))), none⟩, ⟨(some 4), (.mv (.t 13)), none⟩])
 .ret)), false⟩
/-- foreman/join.fall -/
def a97 : AFn := ⟨70, [],
 (.seq (.reg [⟨(some 3), (.box 36 (.t 0)), none⟩])
 (.blk 0 (.loop (.blk 1 (.seq (.reg [⟨(some 9), (.mkfn (.func 163) [] [(.t 3)]), none⟩, ⟨(some 6), (.mv (.t 9)), none⟩])
 (.seq (.reg [⟨(some 10), (.load true 8 (.t 3)), none⟩, ⟨(some 11), (.mv (.t 1)), none⟩, ⟨(some 12), (.mv (.t 2)), none⟩, ⟨(some 13), (.callf 156 [(.t 10), (.t 11), (.t 12)]), none⟩])
 (.seq (.reg [⟨(some 14), (.mv (.t 6)), none⟩, ⟨(some 15), (.mv (.t 1)), none⟩, ⟨(some 16), (.callv (.t 14) [(.t 15)]), none⟩])
 (.seq (.reg [⟨(some 17), (.fadd 6 (.t 3)), none⟩, ⟨(some 18), (.load false 1 (.t 17)), none⟩, ⟨(some 19), (.mv (.t 1)), none⟩, ⟨(some 20), (.iaS 16 (.t 18) (.t 19)), none⟩, ⟨(some 21), (.load true 16 (.t 20)), none⟩, ⟨(some 7), (.alloc 64 [(.d (.s [])), (.d (.s [])), (.d (.i .u8 0)), (.d (.i .i64 0)), (.d (.i .i64 0)), (.d (.i .i64 0)), .nilsl, (.d (.i .i64 0)), (.d (.i .i64 0)), (.d (.i .u8 0)), (.d (.i .i64 0)), (.d (.i .i64 0)), (.d (.i .u8 0)), (.d (.i .i64 0)), (.d (.s [])), .nilsl]), none⟩, ⟨none, (.store 16 (.t 7) (.t 21)), none⟩])
 (.seq (.seq (.reg [⟨(some 22), (.fadd 6 (.t 3)), none⟩, ⟨(some 23), (.load false 1 (.t 22)), none⟩, ⟨(some 24), (.len 1 (.t 23)), none⟩, ⟨(some 25), (.mv (.c (.d (.i .i64 0)))), none⟩])
 (.blk 2 (.loop (.seq (.reg [⟨(some 26), (.bin .lss .bad (.t 25) (.t 24)), none⟩])
 (.seq (.cond (.t 26)
 .skip
 (.exit 2))
 (.seq (.blk 3 (.seq (.reg [⟨(some 27), (.mv (.t 25)), none⟩, ⟨(some 8), (.mv (.t 27)), none⟩])
 (.seq (.dreg 0 [⟨⟨(some 28), (.mv (.t 8)), none⟩, 0, false, [], none⟩, ⟨⟨(some 29), (.mv (.t 1)), none⟩, 1, false, [], none⟩, ⟨⟨(some 30), (.bin .neq .bad (.t 28) (.t 29)), none⟩, 2, false, [], none⟩, ⟨⟨(some 31), (.mv (.t 30)), none⟩, 3, false, [], none⟩, ⟨⟨(some 32), (.fadd 6 (.t 3)), (some (31, true))⟩, 4, false, [], none⟩, ⟨⟨(some 33), (.load false 1 (.t 32)), (some (31, true))⟩, 5, false, [], none⟩, ⟨⟨(some 34), (.mv (.t 8)), (some (31, true))⟩, 6, false, [], none⟩, ⟨⟨(some 35), (.iaS 16 (.t 33) (.t 34)), (some (31, true))⟩, 7, false, [], none⟩, ⟨⟨(some 36), (.fadd 3 (.t 35)), (some (31, true))⟩, 8, false, [], none⟩, ⟨⟨(some 37), (.load false 1 (.t 36)), (some (31, true))⟩, 9, false, [], none⟩, ⟨⟨(some 38), (.fadd 3 (.t 7)), (some (31, true))⟩, 10, false, [], none⟩, ⟨⟨(some 39), (.load false 1 (.t 38)), (some (31, true))⟩, 11, false, [], none⟩, ⟨⟨(some 40), (.bin .eql .bad (.t 37) (.t 39)), (some (31, true))⟩, 12, false, [], none⟩, ⟨⟨(some 41), (.pick (.t 31) (.t 40) (.c (.d (.b false)))), none⟩, 13, false, [], none⟩, ⟨⟨(some 42), (.mv (.t 41)), none⟩, 14, false, [], none⟩, ⟨⟨(some 43), (.fadd 6 (.t 3)), (some (42, true))⟩, 15, false, [], none⟩, ⟨⟨(some 44), (.load false 1 (.t 43)), (some (42, true))⟩, 16, false, [], none⟩, ⟨⟨(some 45), (.mv (.t 8)), (some (42, true))⟩, 17, false, [], none⟩, ⟨⟨(some 46), (.iaS 16 (.t 44) (.t 45)), (some (42, true))⟩, 18, false, [], none⟩, ⟨⟨(some 47), (.fadd 4 (.t 46)), (some (42, true))⟩, 19, false, [], none⟩, ⟨⟨(some 48), (.load false 1 (.t 47)), (some (42, true))⟩, 20, false, [], none⟩, ⟨⟨(some 49), (.fadd 4 (.t 7)), (some (42, true))⟩, 21, false, [], none⟩, ⟨⟨(some 50), (.load false 1 (.t 49)), (some (42, true))⟩, 22, false, [], none⟩, ⟨⟨(some 51), (.bin .eql .bad (.t 48) (.t 50)), (some (42, true))⟩, 23, false, [], none⟩, ⟨⟨(some 52), (.pick (.t 42) (.t 51) (.c (.d (.b false)))), none⟩, 24, false, [], none⟩])
 (.cond (.t 52)
 (.reg [⟨(some 53), (.mv (.t 6)), none⟩, ⟨(some 54), (.mv (.t 8)), none⟩, ⟨(some 55), (.callv (.t 53) [(.t 54)]), none⟩])
 .skip))))
 (.reg [⟨(some 56), (.bin .add .bad (.t 25) (.c (.d (.i .i64 1)))), none⟩, ⟨(some 25), (.mv (.t 56)), none⟩])))))))
 (.seq (.seq (.reg [⟨(some 57), (.fadd 4 (.t 7)), none⟩, ⟨(some 58), (.load false 1 (.t 57)), none⟩, ⟨(some 1), (.mv (.t 58)), none⟩])
 (.seq (.reg [⟨(some 59), (.mv (.t 1)), none⟩, ⟨(some 60), (.bin .lss .bad (.t 59) (.c (.d (.i .i64 0)))), none⟩, ⟨(some 61), (.mv (.t 60)), none⟩, ⟨(some 62), (.fadd 6 (.t 3)), (some (61, false))⟩, ⟨(some 63), (.load false 1 (.t 62)), (some (61, false))⟩, ⟨(some 64), (.mv (.t 1)), (some (61, false))⟩, ⟨(some 65), (.iaS 16 (.t 63) (.t 64)), (some (61, false))⟩, ⟨(some 66), (.fadd 9 (.t 65)), (some (61, false))⟩, ⟨(some 67), (.load false 1 (.t 66)), (some (61, false))⟩, ⟨(some 68), (.callf 165 [(.t 67)]), (some (61, false))⟩, ⟨(some 69), (.pick (.t 61) (.c (.d (.b true))) (.t 68)), none⟩])
 (.cond (.t 69)
 .ret
 .skip)))
 (.reg [⟨(some 2), (.mv (.c (.d (.i .u8 5)))), none⟩]))))))))))), true⟩
/-- (*foreman/graph.Graph).none -/
def a98 : AFn := ⟨12, [.tmp 2],
 (.seq (.reg [⟨(some 2), (.mv (.c (.d (.b false)))), none⟩])
 (.seq (.reg [⟨(some 3), (.mv (.t 0)), none⟩, ⟨(some 4), (.bin .eql .ptr (.t 3) (.c (.d .nilp))), none⟩, ⟨(some 5), (.mv (.t 4)), none⟩, ⟨(some 6), (.mv (.t 0)), (some (5, false))⟩, ⟨(some 7), (.nilchk (.t 6)), (some (5, false))⟩, ⟨(some 8), (.fadd 0 (.t 7)), (some (5, false))⟩, ⟨(some 9), (.load false 1 (.t 8)), (some (5, false))⟩, ⟨(some 10), (.un .not (.t 9)), (some (5, false))⟩, ⟨(some 11), (.pick (.t 5) (.c (.d (.b true))) (.t 10)), none⟩, ⟨(some 2), (.mv (.t 11)), none⟩])
 .ret)), false⟩
/-- foreman/snap.fit -/
def a100 : AFn := ⟨6, [.tmp 2],
 (.seq (.reg [⟨(some 2), (.mv (.c (.d (.b false)))), none⟩])
 (.seq (.reg [⟨(some 3), (.mv (.t 0)), none⟩, ⟨(some 4), (.callf 166 [(.t 3), (.c (.d (.fn (.func 167) [] [])))]), none⟩, ⟨(some 5), (.un .not (.t 4)), none⟩, ⟨(some 2), (.mv (.t 5)), none⟩])
 .ret)), false⟩
/-- foreman/snap.head -/
def a101 : AFn := ⟨32, [.tmp 2],
 (.seq (.reg [⟨(some 2), (.mv (.c .nilsl)), none⟩])
 (.seq (.reg [⟨(some 4), (.mv (.t 0)), none⟩, ⟨(some 5), (.nilchk (.t 4)), none⟩, ⟨(some 6), (.fadd 0 (.t 5)), none⟩, ⟨(some 3), (.mv (.t 6)), none⟩])
 (.seq (.dreg 1 [⟨⟨(some 7), (.mv (.t 3)), none⟩, 0, false, [], none⟩, ⟨⟨(some 8), (.nilchk (.t 7)), none⟩, 1, false, [], none⟩, ⟨⟨(some 9), (.fadd 0 (.t 8)), none⟩, 2, false, [], none⟩, ⟨⟨(some 10), (.build [(.d .nilp), (.d (.i .i64 0)), (.d (.i .i64 0))] [(0, 1, (.t 9)), (1, 1, (.c (.d (.i .i64 0)))), (2, 1, (.c (.d (.i .i64 400))))]), none⟩, 3, false, [], none⟩, ⟨⟨(some 11), (.mv (.t 3)), none⟩, 4, false, [], none⟩, ⟨⟨(some 12), (.nilchk (.t 11)), none⟩, 5, false, [], none⟩, ⟨⟨(some 13), (.fadd 1 (.t 12)), none⟩, 6, false, [], none⟩, ⟨⟨(some 14), (.build [(.d .nilp), (.d (.i .i64 0)), (.d (.i .i64 0))] [(0, 1, (.t 13)), (1, 1, (.c (.d (.i .i64 0)))), (2, 1, (.c (.d (.i .i64 12))))]), none⟩, 7, false, [], none⟩, ⟨⟨(some 15), (.mv (.t 3)), none⟩, 8, false, [], none⟩, ⟨⟨(some 16), (.nilchk (.t 15)), none⟩, 9, false, [], none⟩, ⟨⟨(some 17), (.fadd 2 (.t 16)), none⟩, 10, false, [], none⟩, ⟨⟨(some 18), (.build [(.d .nilp), (.d (.i .i64 0)), (.d (.i .i64 0))] [(0, 1, (.t 17)), (1, 1, (.c (.d (.i .i64 0)))), (2, 1, (.c (.d (.i .i64 40))))]), none⟩, 11, false, [], none⟩, ⟨⟨(some 19), (.mv (.t 3)), none⟩, 12, false, [], none⟩, ⟨⟨(some 20), (.nilchk (.t 19)), none⟩, 13, false, [], none⟩, ⟨⟨(some 21), (.fadd 3 (.t 20)), none⟩, 14, false, [], none⟩, ⟨⟨(some 22), (.build [(.d .nilp), (.d (.i .i64 0)), (.d (.i .i64 0))] [(0, 1, (.t 21)), (1, 1, (.c (.d (.i .i64 0)))), (2, 1, (.c (.d (.i .i64 9))))]), none⟩, 15, false, [], none⟩, ⟨⟨(some 23), (.mv (.t 3)), none⟩, 16, false, [], none⟩, ⟨⟨(some 24), (.nilchk (.t 23)), none⟩, 17, false, [], none⟩, ⟨⟨(some 25), (.fadd 4 (.t 24)), none⟩, 18, false, [], none⟩, ⟨⟨(some 26), (.build [(.d .nilp), (.d (.i .i64 0)), (.d (.i .i64 0))] [(0, 1, (.t 25)), (1, 1, (.c (.d (.i .i64 0)))), (2, 1, (.c (.d (.i .i64 12))))]), none⟩, 19, false, [], none⟩, ⟨⟨(some 27), (.mv (.t 0)), none⟩, 20, false, [], none⟩, ⟨⟨(some 28), (.nilchk (.t 27)), none⟩, 21, false, [], none⟩, ⟨⟨(some 29), (.fadd 5 (.t 28)), none⟩, 22, false, [], none⟩, ⟨⟨(some 30), (.build [(.d .nilp), (.d (.i .i64 0)), (.d (.i .i64 0))] [(0, 1, (.t 29)), (1, 1, (.c (.d (.i .i64 0)))), (2, 1, (.c (.d (.i .i64 12))))]), none⟩, 23, false, [], none⟩, ⟨⟨(some 31), (.bsl 223 3 6 [(.d .nilp), (.d (.i .i64 0)), (.d (.i .i64 0))] [(0, 3, (.t 10)), (3, 3, (.t 14)), (6, 3, (.t 18)), (9, 3, (.t 22)), (12, 3, (.t 26)), (15, 3, (.t 30))]), none⟩, 24, false, [], (some 0)⟩, ⟨⟨(some 2), (.mv (.t 31)), none⟩, 25, false, [], none⟩])
 .ret))), false⟩
/-- slices.ContainsFunc[[]foreman/api.Node,foreman/api.Node] -/
def a102 : AFn := ⟨9, [.tmp 4],
 (.seq (.reg [⟨(some 4), (.mv (.c (.d (.b false)))), none⟩])
 (.seq (.reg [⟨(some 5), (.mv (.t 0)), none⟩, ⟨(some 6), (.mv (.t 1)), none⟩, ⟨(some 7), (.callf 93 [(.t 5), (.t 6)]), none⟩, ⟨(some 8), (.bin .geq .bad (.t 7) (.c (.d (.i .i64 0)))), none⟩, ⟨(some 4), (.mv (.t 8)), none⟩])
 .ret)), false⟩
/-- foreman/scope.Right -/
def a105 : AFn := ⟨38, [.tmp 2],
 (.seq (.reg [⟨(some 2), (.mv (.c (.d (.b false)))), none⟩])
 (.seq (.seq (.reg [⟨(some 5), (.mv (.t 0)), none⟩, ⟨(some 6), (.len 1 (.t 5)), none⟩, ⟨(some 7), (.mv (.c (.d (.i .i64 0)))), none⟩])
 (.blk 0 (.loop (.seq (.reg [⟨(some 8), (.bin .lss .bad (.t 7) (.t 6)), none⟩])
 (.seq (.cond (.t 8)
 .skip
 (.exit 0))
 (.seq (.blk 1 (.seq (.reg [⟨(some 9), (.mv (.t 7)), none⟩, ⟨(some 10), (.iaS 16 (.t 5) (.t 7)), none⟩, ⟨(some 11), (.load true 16 (.t 10)), none⟩, ⟨(some 4), (.alloc 64 [(.d (.s [])), (.d (.s [])), (.d (.i .u8 0)), (.d (.i .i64 0)), (.d (.i .i64 0)), (.d (.i .i64 0)), .nilsl, (.d (.i .i64 0)), (.d (.i .i64 0)), (.d (.i .u8 0)), (.d (.i .i64 0)), (.d (.i .i64 0)), (.d (.i .u8 0)), (.d (.i .i64 0)), (.d (.s [])), .nilsl]), none⟩, ⟨(some 3), (.mv (.t 9)), none⟩, ⟨none, (.store 16 (.t 4) (.t 11)), none⟩])
 (.seq (.dreg 0 [⟨⟨(some 12), (.fadd 4 (.t 4)), none⟩, 0, false, [], none⟩, ⟨⟨(some 13), (.load false 1 (.t 12)), none⟩, 1, false, [], none⟩, ⟨⟨(some 14), (.bin .lss .bad (.t 13) (.c (.d (.i .i64 (-1))))), none⟩, 2, false, [], none⟩, ⟨⟨(some 15), (.mv (.t 14)), none⟩, 3, false, [], none⟩, ⟨⟨(some 16), (.fadd 4 (.t 4)), (some (15, false))⟩, 4, false, [], none⟩, ⟨⟨(some 17), (.load false 1 (.t 16)), (some (15, false))⟩, 5, false, [], none⟩, ⟨⟨(some 18), (.mv (.t 3)), (some (15, false))⟩, 6, false, [], none⟩, ⟨⟨(some 19), (.bin .geq .bad (.t 17) (.t 18)), (some (15, false))⟩, 7, false, [], none⟩, ⟨⟨(some 20), (.pick (.t 15) (.c (.d (.b true))) (.t 19)), none⟩, 8, false, [], none⟩, ⟨⟨(some 21), (.mv (.t 20)), none⟩, 9, false, [], none⟩, ⟨⟨(some 22), (.fadd 4 (.t 4)), (some (21, false))⟩, 10, false, [], none⟩, ⟨⟨(some 23), (.load false 1 (.t 22)), (some (21, false))⟩, 11, false, [], none⟩, ⟨⟨(some 24), (.bin .geq .bad (.t 23) (.c (.d (.i .i64 0)))), (some (21, false))⟩, 12, false, [], none⟩, ⟨⟨(some 25), (.mv (.t 24)), (some (21, false))⟩, 13, false, [], none⟩, ⟨⟨(some 26), (.mv (.t 0)), (some (25, true))⟩, 14, false, [], none⟩, ⟨⟨(some 27), (.fadd 4 (.t 4)), (some (25, true))⟩, 15, false, [], none⟩, ⟨⟨(some 28), (.load false 1 (.t 27)), (some (25, true))⟩, 16, false, [], none⟩, ⟨⟨(some 29), (.iaS 16 (.t 26) (.t 28)), (some (25, true))⟩, 17, false, [], none⟩, ⟨⟨(some 30), (.fadd 3 (.t 29)), (some (25, true))⟩, 18, false, [], none⟩, ⟨⟨(some 31), (.load false 1 (.t 30)), (some (25, true))⟩, 19, false, [], none⟩, ⟨⟨(some 32), (.fadd 3 (.t 4)), (some (25, true))⟩, 20, false, [], none⟩, ⟨⟨(some 33), (.load false 1 (.t 32)), (some (25, true))⟩, 21, false, [], none⟩, ⟨⟨(some 34), (.bin .neq .bad (.t 31) (.t 33)), (some (25, true))⟩, 22, false, [], none⟩, ⟨⟨(some 35), (.pick (.t 25) (.t 34) (.c (.d (.b false)))), (some (21, false))⟩, 23, false, [], none⟩, ⟨⟨(some 36), (.pick (.t 21) (.c (.d (.b true))) (.t 35)), none⟩, 24, false, [], none⟩])
 (.cond (.t 36)
 (.seq (.reg [⟨(some 2), (.mv (.c (.d (.b false)))), none⟩])
 .ret)
 .skip))))
 (.reg [⟨(some 37), (.bin .add .bad (.t 7) (.c (.d (.i .i64 1)))), none⟩, ⟨(some 7), (.mv (.t 37)), none⟩])))))))
 (.seq (.reg [⟨(some 2), (.mv (.c (.d (.b true)))), none⟩])
 .ret))), false⟩
/-- (*foreman/flow.judge).each -/
def a106 : AFn := ⟨24, [.tmp 4],
 (.seq (.reg [⟨(some 4), (.mv (.c (.d (.b false)))), none⟩])
 (.seq (.seq (.reg [⟨(some 7), (.mv (.t 0)), none⟩, ⟨(some 8), (.nilchk (.t 7)), none⟩, ⟨(some 9), (.fadd 0 (.t 8)), none⟩, ⟨(some 10), (.fadd 6 (.t 9)), none⟩, ⟨(some 11), (.load false 1 (.t 10)), none⟩, ⟨(some 12), (.len 1 (.t 11)), none⟩, ⟨(some 13), (.mv (.c (.d (.i .i64 0)))), none⟩])
 (.blk 0 (.loop (.seq (.reg [⟨(some 14), (.bin .lss .bad (.t 13) (.t 12)), none⟩])
 (.seq (.cond (.t 14)
 .skip
 (.exit 0))
 (.seq (.blk 1 (.seq (.reg [⟨(some 15), (.mv (.t 13)), none⟩, ⟨(some 16), (.iaS 16 (.t 11) (.t 13)), none⟩, ⟨(some 17), (.load true 16 (.t 16)), none⟩, ⟨(some 6), (.alloc 64 [(.d (.s [])), (.d (.s [])), (.d (.i .u8 0)), (.d (.i .i64 0)), (.d (.i .i64 0)), (.d (.i .i64 0)), .nilsl, (.d (.i .i64 0)), (.d (.i .i64 0)), (.d (.i .u8 0)), (.d (.i .i64 0)), (.d (.i .i64 0)), (.d (.i .u8 0)), (.d (.i .i64 0)), (.d (.s [])), .nilsl]), none⟩, ⟨(some 5), (.mv (.t 15)), none⟩, ⟨none, (.store 16 (.t 6) (.t 17)), none⟩])
 (.seq (.reg [⟨(some 18), (.mv (.t 1)), none⟩, ⟨(some 19), (.mv (.t 5)), none⟩, ⟨(some 20), (.load true 16 (.t 6)), none⟩, ⟨(some 21), (.callv (.t 18) [(.t 19), (.t 20)]), none⟩, ⟨(some 22), (.un .not (.t 21)), none⟩])
 (.cond (.t 22)
 (.seq (.reg [⟨(some 4), (.mv (.c (.d (.b false)))), none⟩])
 .ret)
 .skip))))
 (.reg [⟨(some 23), (.bin .add .bad (.t 13) (.c (.d (.i .i64 1)))), none⟩, ⟨(some 13), (.mv (.t 23)), none⟩])))))))
 (.seq (.reg [⟨(some 4), (.mv (.c (.d (.b true)))), none⟩])
 .ret))), false⟩
/-- foreman/ident.Child -/
def a109 : AFn := ⟨23, [.tmp 4],
 (.seq (.reg [⟨(some 4), (.mv (.c (.d (.s [])))), none⟩])
 (.seq (.reg [⟨(some 8), (.mv (.t 0)), none⟩, ⟨(some 9), (.callf 48 [(.t 8)]), none⟩, ⟨(some 7), (.mv (.t 9)), none⟩, ⟨(some 10), (.extr (.t 7) 0), none⟩, ⟨(some 11), (.extr (.t 7) 1), none⟩, ⟨(some 5), (.alloc 96 [(.d (.i .i64 0)), .nilsl]), none⟩, ⟨none, (.store 2 (.t 5) (.t 10)), none⟩, ⟨(some 6), (.mv (.t 11)), none⟩])
 (.seq (.seq (.reg [⟨(some 12), (.mv (.t 6)), none⟩, ⟨(some 13), (.un .not (.t 12)), none⟩])
 (.cond (.t 13)
 (.seq (.reg [⟨(some 4), (.mv (.c (.d (.s [])))), none⟩])
 .ret)
 .skip))
 (.seq (.reg [⟨(some 14), (.fadd 1 (.t 5)), none⟩, ⟨(some 15), (.load false 1 (.t 14)), none⟩, ⟨(some 16), (.mv (.t 1)), none⟩, ⟨(some 17), (.build [(.d (.s [])), (.d (.i .i64 0))] [(0, 1, (.t 16)), (1, 1, (.c (.d (.i .i64 (-1)))))]), none⟩, ⟨(some 18), (.bsl 147 2 1 [(.d (.s [])), (.d (.i .i64 0))] [(0, 2, (.t 17))]), none⟩, ⟨(some 19), (.app 147 2 24 false (.t 15) (.t 18)), none⟩, ⟨(some 20), (.fadd 1 (.t 5)), none⟩, ⟨none, (.store 1 (.t 20) (.t 19)), none⟩])
 (.seq (.reg [⟨(some 21), (.load true 2 (.t 5)), none⟩, ⟨(some 22), (.callf 172 [(.t 21)]), none⟩, ⟨(some 4), (.mv (.t 22)), none⟩])
 .ret))))), false⟩
/-- (*foreman/flow.judge).sorted -/
def a116 : AFn := ⟨111, [.tmp 2],
 (.seq (.reg [⟨(some 2), (.mv (.c (.d (.b false)))), none⟩])
 (.seq (.reg [⟨(some 14), (.mv (.t 0)), none⟩, ⟨(some 15), (.nilchk (.t 14)), none⟩, ⟨(some 16), (.fadd 0 (.t 15)), none⟩, ⟨(some 17), (.fadd 6 (.t 16)), none⟩, ⟨(some 18), (.load false 1 (.t 17)), none⟩, ⟨(some 19), (.callf 134 [(.t 18), (.c (.d (.i .i64 0)))]), none⟩, ⟨(some 3), (.mv (.t 19)), none⟩])
 (.seq (.reg [⟨(some 20), (.mv (.t 0)), none⟩, ⟨(some 21), (.nilchk (.t 20)), none⟩, ⟨(some 22), (.fadd 0 (.t 21)), none⟩, ⟨(some 23), (.fadd 6 (.t 22)), none⟩, ⟨(some 24), (.load false 1 (.t 23)), none⟩, ⟨(some 25), (.len 1 (.t 24)), none⟩, ⟨(some 26), (.bin .mul .bad (.c (.d (.i .i64 2))) (.t 25)), none⟩, ⟨(some 27), (.mksl 3 1 8 [(.d (.i .i64 0))] (.t 26) (.t 26)), none⟩, ⟨(some 4), (.mv (.t 27)), none⟩])
 (.seq (.reg [⟨(some 28), (.mv (.t 4)), none⟩, ⟨(some 29), (.len 1 (.t 28)), none⟩, ⟨(some 30), (.mksl 48 1 24 [.nilsl] (.t 29) (.t 29)), none⟩, ⟨(some 5), (.mv (.t 30)), none⟩])
 (.seq (.seq (.reg [⟨(some 31), (.mv (.t 3)), none⟩, ⟨(some 32), (.len 1 (.t 31)), none⟩, ⟨(some 33), (.mv (.c (.d (.i .i64 0)))), none⟩])
 (.blk 0 (.loop (.seq (.reg [⟨(some 34), (.bin .lss .bad (.t 33) (.t 32)), none⟩])
 (.seq (.cond (.t 34)
 .skip
 (.exit 0))
 (.seq (.blk 1 (.seq (.reg [⟨(some 35), (.iaS 2 (.t 31) (.t 33)), none⟩, ⟨(some 36), (.load true 2 (.t 35)), none⟩, ⟨(some 7), (.alloc 233 [(.d (.i .i64 0)), (.d (.i .i64 0))]), none⟩, ⟨none, (.store 2 (.t 7) (.t 36)), none⟩])
 (.seq (.reg [⟨(some 37), (.mv (.t 4)), none⟩, ⟨(some 38), (.fadd 1 (.t 7)), none⟩, ⟨(some 39), (.load false 1 (.t 38)), none⟩, ⟨(some 40), (.iaS 1 (.t 37) (.t 39)), none⟩, ⟨(some 41), (.load false 1 (.t 40)), none⟩, ⟨(some 42), (.bin .add .bad (.t 41) (.c (.d (.i .i64 1)))), none⟩, ⟨(some 43), (.iaS 1 (.t 37) (.t 39)), none⟩, ⟨none, (.store 1 (.t 43) (.t 42)), none⟩])
 (.dreg 1 [⟨⟨(some 47), (.mv (.t 5)), none⟩, 3, false, [], none⟩, ⟨⟨(some 48), (.fadd 0 (.t 7)), none⟩, 4, false, [], none⟩, ⟨⟨(some 49), (.load false 1 (.t 48)), none⟩, 5, false, [], none⟩, ⟨⟨(some 50), (.iaS 1 (.t 47) (.t 49)), none⟩, 6, false, [], none⟩, ⟨⟨(some 51), (.load false 1 (.t 50)), none⟩, 7, false, [], none⟩, ⟨⟨(some 52), (.fadd 1 (.t 7)), none⟩, 8, false, [], none⟩, ⟨⟨(some 53), (.load false 1 (.t 52)), none⟩, 9, false, [], none⟩, ⟨⟨(some 54), (.bsl 3 1 1 [(.d (.i .i64 0))] [(0, 1, (.t 53))]), none⟩, 10, false, [], (some 0)⟩, ⟨⟨(some 55), (.app 3 1 8 false (.t 51) (.t 54)), none⟩, 11, true, [], none⟩, ⟨⟨(some 44), (.mv (.t 5)), none⟩, 0, false, [], none⟩, ⟨⟨(some 45), (.fadd 0 (.t 7)), none⟩, 1, false, [], none⟩, ⟨⟨(some 46), (.load false 1 (.t 45)), none⟩, 2, false, [], none⟩, ⟨⟨(some 56), (.iaS 1 (.t 44) (.t 46)), none⟩, 12, false, [11], none⟩, ⟨⟨none, (.store 1 (.t 56) (.t 55)), none⟩, 13, true, [], none⟩]))))
 (.reg [⟨(some 57), (.bin .add .bad (.t 33) (.c (.d (.i .i64 1)))), none⟩, ⟨(some 33), (.mv (.t 57)), none⟩])))))))
 (.seq (.reg [⟨(some 8), (.mv (.c .nilsl)), none⟩])
 (.seq (.seq (.reg [⟨(some 58), (.mv (.t 4)), none⟩, ⟨(some 59), (.len 1 (.t 58)), none⟩, ⟨(some 60), (.mv (.c (.d (.i .i64 0)))), none⟩])
 (.blk 2 (.loop (.seq (.reg [⟨(some 61), (.bin .lss .bad (.t 60) (.t 59)), none⟩])
 (.seq (.cond (.t 61)
 .skip
 (.exit 2))
 (.seq (.blk 3 (.seq (.reg [⟨(some 62), (.mv (.t 60)), none⟩, ⟨(some 63), (.iaS 1 (.t 58) (.t 60)), none⟩, ⟨(some 64), (.load false 1 (.t 63)), none⟩, ⟨(some 9), (.mv (.t 62)), none⟩, ⟨(some 10), (.mv (.t 64)), none⟩])
 (.seq (.reg [⟨(some 65), (.mv (.t 10)), none⟩, ⟨(some 66), (.bin .eql .bad (.t 65) (.c (.d (.i .i64 0)))), none⟩])
 (.cond (.t 66)
 (.reg [⟨(some 67), (.mv (.t 8)), none⟩, ⟨(some 68), (.mv (.t 9)), none⟩, ⟨(some 69), (.bsl 3 1 1 [(.d (.i .i64 0))] [(0, 1, (.t 68))]), none⟩, ⟨(some 70), (.app 3 1 8 false (.t 67) (.t 69)), none⟩, ⟨(some 8), (.mv (.t 70)), none⟩])
 .skip))))
 (.reg [⟨(some 71), (.bin .add .bad (.t 60) (.c (.d (.i .i64 1)))), none⟩, ⟨(some 60), (.mv (.t 71)), none⟩])))))))
 (.seq (.seq (.reg [⟨(some 11), (.mv (.c (.d (.i .i64 0)))), none⟩])
 (.blk 4 (.loop (.seq (.seq (.reg [⟨(some 72), (.mv (.t 11)), none⟩, ⟨(some 73), (.mv (.t 8)), none⟩, ⟨(some 74), (.len 1 (.t 73)), none⟩, ⟨(some 75), (.bin .lss .bad (.t 72) (.t 74)), none⟩])
 (.cond (.t 75)
 .skip
 (.exit 4)))
 (.seq (.blk 5 (.seq (.reg [⟨(some 78), (.mv (.t 5)), none⟩, ⟨(some 79), (.mv (.t 8)), none⟩, ⟨(some 80), (.mv (.t 11)), none⟩, ⟨(some 81), (.iaS 1 (.t 79) (.t 80)), none⟩, ⟨(some 82), (.load false 1 (.t 81)), none⟩, ⟨(some 83), (.iaS 1 (.t 78) (.t 82)), none⟩, ⟨(some 84), (.load false 1 (.t 83)), none⟩, ⟨(some 85), (.len 1 (.t 84)), none⟩, ⟨(some 86), (.mv (.c (.d (.i .i64 0)))), none⟩])
 (.blk 6 (.loop (.seq (.reg [⟨(some 87), (.bin .lss .bad (.t 86) (.t 85)), none⟩])
 (.seq (.cond (.t 87)
 .skip
 (.exit 6))
 (.seq (.blk 7 (.seq (.reg [⟨(some 88), (.iaS 1 (.t 84) (.t 86)), none⟩, ⟨(some 89), (.load false 1 (.t 88)), none⟩, ⟨(some 13), (.mv (.t 89)), none⟩])
 (.seq (.reg [⟨(some 90), (.mv (.t 4)), none⟩, ⟨(some 91), (.mv (.t 13)), none⟩, ⟨(some 92), (.iaS 1 (.t 90) (.t 91)), none⟩, ⟨(some 93), (.load false 1 (.t 92)), none⟩, ⟨(some 94), (.bin .sub .bad (.t 93) (.c (.d (.i .i64 1)))), none⟩, ⟨(some 95), (.iaS 1 (.t 90) (.t 91)), none⟩, ⟨none, (.store 1 (.t 95) (.t 94)), none⟩])
 (.seq (.reg [⟨(some 96), (.mv (.t 4)), none⟩, ⟨(some 97), (.mv (.t 13)), none⟩, ⟨(some 98), (.iaS 1 (.t 96) (.t 97)), none⟩, ⟨(some 99), (.load false 1 (.t 98)), none⟩, ⟨(some 100), (.bin .eql .bad (.t 99) (.c (.d (.i .i64 0)))), none⟩])
 (.cond (.t 100)
 (.reg [⟨(some 101), (.mv (.t 8)), none⟩, ⟨(some 102), (.mv (.t 13)), none⟩, ⟨(some 103), (.bsl 3 1 1 [(.d (.i .i64 0))] [(0, 1, (.t 102))]), none⟩, ⟨(some 104), (.app 3 1 8 false (.t 101) (.t 103)), none⟩, ⟨(some 8), (.mv (.t 104)), none⟩])
 .skip)))))
 (.reg [⟨(some 105), (.bin .add .bad (.t 86) (.c (.d (.i .i64 1)))), none⟩, ⟨(some 86), (.mv (.t 105)), none⟩]))))))))
 (.reg [⟨(some 76), (.mv (.t 11)), none⟩, ⟨(some 77), (.bin .add .bad (.t 76) (.c (.d (.i .i64 1)))), none⟩, ⟨(some 11), (.mv (.t 77)), none⟩]))))))
 (.seq (.reg [⟨(some 106), (.mv (.t 8)), none⟩, ⟨(some 107), (.len 1 (.t 106)), none⟩, ⟨(some 108), (.mv (.t 4)), none⟩, ⟨(some 109), (.len 1 (.t 108)), none⟩, ⟨(some 110), (.bin .eql .bad (.t 107) (.t 109)), none⟩, ⟨(some 2), (.mv (.t 110)), none⟩])
 .ret))))))))), false⟩
/-- foreman/scope.Deep -/
def a118 : AFn := ⟨17, [.tmp 4],
 (.seq (.reg [⟨(some 4), (.mv (.c (.d (.i .i64 0)))), none⟩])
 (.seq (.seq (.reg [⟨(some 6), (.mv (.t 0)), none⟩, ⟨(some 7), (.mv (.t 1)), none⟩, ⟨(some 8), (.callf 174 [(.t 6), (.t 7)]), none⟩, ⟨(some 9), (.un .not (.t 8)), none⟩])
 (.cond (.t 9)
 (.seq (.reg [⟨(some 4), (.mv (.c (.d (.i .i64 0)))), none⟩])
 .ret)
 .skip))
 (.seq (.reg [⟨(some 5), (.alloc 3 [(.d (.i .i64 0))]), none⟩, ⟨none, (.store 1 (.t 5) (.c (.d (.i .i64 1)))), none⟩])
 (.seq (.seq (.reg [⟨(some 10), (.mv (.t 0)), none⟩, ⟨(some 11), (.mv (.t 1)), none⟩, ⟨(some 12), (.callf 175 [(.t 10), (.t 11)]), none⟩])
 (.blk 0 (.rfun (.t 12) [13] .skip (.blk 1 (.reg [⟨(some 14), (.load false 1 (.t 5)), none⟩, ⟨(some 15), (.bin .add .bad (.t 14) (.c (.d (.i .i64 1)))), none⟩, ⟨none, (.store 1 (.t 5) (.t 15)), none⟩])))))
 (.seq (.reg [⟨(some 16), (.load false 1 (.t 5)), none⟩, ⟨(some 4), (.mv (.t 16)), none⟩])
 .ret))))), false⟩
/-- (*foreman/flow.judge).flows -/
def a120 : AFn := ⟨43, [.tmp 4],
 (.seq (.reg [⟨(some 4), (.mv (.c (.d (.b false)))), none⟩])
 (.seq (.seq (.reg [⟨(some 9), (.mv (.t 0)), none⟩, ⟨(some 10), (.nilchk (.t 9)), none⟩, ⟨(some 11), (.fadd 0 (.t 10)), none⟩, ⟨(some 12), (.fadd 5 (.t 11)), none⟩, ⟨(some 13), (.load false 1 (.t 12)), none⟩, ⟨(some 14), (.mv (.c (.d (.i .i64 0)))), none⟩])
 (.blk 0 (.loop (.seq (.reg [⟨(some 15), (.bin .lss .bad (.t 14) (.t 13)), none⟩])
 (.seq (.cond (.t 15)
 .skip
 (.exit 0))
 (.seq (.blk 1 (.seq (.reg [⟨(some 16), (.mv (.t 14)), none⟩, ⟨(some 5), (.mv (.t 16)), none⟩])
 (.seq (.reg [⟨(some 6), (.mv (.c .nilsl)), none⟩])
 (.seq (.seq (.reg [⟨(some 17), (.mv (.t 0)), none⟩, ⟨(some 18), (.nilchk (.t 17)), none⟩, ⟨(some 19), (.fadd 0 (.t 18)), none⟩, ⟨(some 20), (.fadd 6 (.t 19)), none⟩, ⟨(some 21), (.load false 1 (.t 20)), none⟩, ⟨(some 22), (.len 1 (.t 21)), none⟩, ⟨(some 23), (.mv (.c (.d (.i .i64 0)))), none⟩])
 (.blk 2 (.loop (.seq (.reg [⟨(some 24), (.bin .lss .bad (.t 23) (.t 22)), none⟩])
 (.seq (.cond (.t 24)
 .skip
 (.exit 2))
 (.seq (.blk 3 (.seq (.reg [⟨(some 25), (.mv (.t 23)), none⟩, ⟨(some 26), (.iaS 16 (.t 21) (.t 23)), none⟩, ⟨(some 27), (.load true 16 (.t 26)), none⟩, ⟨(some 8), (.alloc 64 [(.d (.s [])), (.d (.s [])), (.d (.i .u8 0)), (.d (.i .i64 0)), (.d (.i .i64 0)), (.d (.i .i64 0)), .nilsl, (.d (.i .i64 0)), (.d (.i .i64 0)), (.d (.i .u8 0)), (.d (.i .i64 0)), (.d (.i .i64 0)), (.d (.i .u8 0)), (.d (.i .i64 0)), (.d (.s [])), .nilsl]), none⟩, ⟨(some 7), (.mv (.t 25)), none⟩, ⟨none, (.store 16 (.t 8) (.t 27)), none⟩])
 (.seq (.reg [⟨(some 28), (.fadd 3 (.t 8)), none⟩, ⟨(some 29), (.load false 1 (.t 28)), none⟩, ⟨(some 30), (.mv (.t 5)), none⟩, ⟨(some 31), (.bin .eql .bad (.t 29) (.t 30)), none⟩])
 (.cond (.t 31)
 (.reg [⟨(some 32), (.mv (.t 6)), none⟩, ⟨(some 33), (.mv (.t 7)), none⟩, ⟨(some 34), (.bsl 3 1 1 [(.d (.i .i64 0))] [(0, 1, (.t 33))]), none⟩, ⟨(some 35), (.app 3 1 8 false (.t 32) (.t 34)), none⟩, ⟨(some 6), (.mv (.t 35)), none⟩])
 .skip))))
 (.reg [⟨(some 36), (.bin .add .bad (.t 23) (.c (.d (.i .i64 1)))), none⟩, ⟨(some 23), (.mv (.t 36)), none⟩])))))))
 (.seq (.reg [⟨(some 37), (.mv (.t 1)), none⟩, ⟨(some 38), (.mv (.t 5)), none⟩, ⟨(some 39), (.mv (.t 6)), none⟩, ⟨(some 40), (.callv (.t 37) [(.t 38), (.t 39)]), none⟩, ⟨(some 41), (.un .not (.t 40)), none⟩])
 (.cond (.t 41)
 (.seq (.reg [⟨(some 4), (.mv (.c (.d (.b false)))), none⟩])
 .ret)
 .skip))))))
 (.reg [⟨(some 42), (.bin .add .bad (.t 14) (.c (.d (.i .i64 1)))), none⟩, ⟨(some 14), (.mv (.t 42)), none⟩])))))))
 (.seq (.reg [⟨(some 4), (.mv (.c (.d (.b true)))), none⟩])
 .ret))), false⟩
/-- foreman/graph.New -/
def a130 : AFn := ⟨14, [.tmp 2, .tmp 3],
 (.seq (.reg [⟨(some 2), (.mv (.c (.d .nilp))), none⟩, ⟨(some 3), (.mv (.c (.d (.i .i64 0)))), none⟩])
 (.seq (.seq (.reg [⟨(some 4), (.mv (.t 0)), none⟩, ⟨(some 5), (.bin .lss .bad (.t 4) (.c (.d (.i .i64 0)))), none⟩, ⟨(some 6), (.mv (.t 5)), none⟩, ⟨(some 7), (.mv (.t 0)), (some (6, false))⟩, ⟨(some 8), (.bin .gtr .bad (.t 7) (.c (.d (.i .i64 10000)))), (some (6, false))⟩, ⟨(some 9), (.pick (.t 6) (.c (.d (.b true))) (.t 8)), none⟩])
 (.cond (.t 9)
 (.seq (.reg [⟨(some 2), (.mv (.c (.d .nilp))), none⟩, ⟨(some 3), (.mv (.c (.d (.i .i64 2)))), none⟩])
 .ret)
 .skip))
 (.seq (.reg [⟨(some 10), (.mv (.t 0)), none⟩, ⟨(some 11), (.mksl 158 2 48 [.nilsl, .nilsl] (.t 10) (.t 10)), none⟩, ⟨(some 12), (.build [(.d (.b false)), .nilsl] [(0, 1, (.c (.d (.b true)))), (1, 1, (.t 11))]), none⟩, ⟨(some 13), (.box 160 (.t 12)), none⟩, ⟨(some 2), (.mv (.t 13)), none⟩, ⟨(some 3), (.mv (.c (.d (.i .i64 0)))), none⟩])
 .ret))), true⟩
/-- (*foreman/order.Order).Grow -/
def a131 : AFn := ⟨52, [.tmp 4],
 (.seq (.reg [⟨(some 4), (.mv (.c (.d (.i .i64 0)))), none⟩])
 (.seq (.seq (.reg [⟨(some 7), (.mv (.t 0)), none⟩, ⟨(some 8), (.callf 55 [(.t 7)]), none⟩])
 (.cond (.t 8)
 (.seq (.reg [⟨(some 4), (.mv (.c (.d (.i .i64 1)))), none⟩])
 .ret)
 .skip))
 (.seq (.seq (.reg [⟨(some 9), (.mv (.t 0)), none⟩, ⟨(some 10), (.nilchk (.t 9)), none⟩, ⟨(some 11), (.fadd 0 (.t 10)), none⟩, ⟨(some 12), (.load false 1 (.t 11)), none⟩, ⟨(some 13), (.mv (.t 1)), none⟩, ⟨(some 14), (.callf 177 [(.t 12), (.t 13)]), none⟩, ⟨(some 5), (.mv (.t 14)), none⟩])
 (.seq (.reg [⟨(some 15), (.mv (.t 5)), none⟩, ⟨(some 16), (.bin .neq .bad (.t 15) (.c (.d (.i .i64 0)))), none⟩])
 (.cond (.t 16)
 (.seq (.reg [⟨(some 17), (.mv (.t 5)), none⟩, ⟨(some 4), (.mv (.t 17)), none⟩])
 .ret)
 .skip)))
 (.seq (.seq (.reg [⟨(some 18), (.mv (.t 0)), none⟩, ⟨(some 19), (.nilchk (.t 18)), none⟩, ⟨(some 20), (.fadd 1 (.t 19)), none⟩, ⟨(some 21), (.load false 1 (.t 20)), none⟩, ⟨(some 22), (.len 1 (.t 21)), none⟩, ⟨(some 6), (.mv (.t 22)), none⟩])
 (.blk 0 (.loop (.seq (.seq (.reg [⟨(some 23), (.mv (.t 6)), none⟩, ⟨(some 24), (.mv (.t 0)), none⟩, ⟨(some 25), (.nilchk (.t 24)), none⟩, ⟨(some 26), (.fadd 0 (.t 25)), none⟩, ⟨(some 27), (.load false 1 (.t 26)), none⟩, ⟨(some 28), (.callf 178 [(.t 27)]), none⟩, ⟨(some 29), (.bin .lss .bad (.t 23) (.t 28)), none⟩])
 (.cond (.t 29)
 .skip
 (.exit 0)))
 (.seq (.blk 1 (.dreg 2 [⟨⟨(some 34), (.mv (.t 0)), none⟩, 2, false, [], none⟩, ⟨⟨(some 35), (.nilchk (.t 34)), none⟩, 3, false, [], none⟩, ⟨⟨(some 36), (.fadd 1 (.t 35)), none⟩, 4, false, [], none⟩, ⟨⟨(some 37), (.load false 1 (.t 36)), none⟩, 5, false, [], none⟩, ⟨⟨(some 38), (.mv (.t 6)), none⟩, 6, false, [], none⟩, ⟨⟨(some 39), (.bsl 3 1 1 [(.d (.i .i64 0))] [(0, 1, (.t 38))]), none⟩, 7, false, [], (some 0)⟩, ⟨⟨(some 40), (.app 3 1 8 true (.t 37) (.t 39)), none⟩, 8, true, [], none⟩, ⟨⟨(some 41), (.mv (.t 0)), none⟩, 9, false, [], none⟩, ⟨⟨(some 42), (.nilchk (.t 41)), none⟩, 10, false, [], none⟩, ⟨⟨(some 43), (.fadd 2 (.t 42)), none⟩, 11, false, [], none⟩, ⟨⟨(some 44), (.load false 1 (.t 43)), none⟩, 12, false, [], none⟩, ⟨⟨(some 45), (.mv (.t 6)), none⟩, 13, false, [], none⟩, ⟨⟨(some 46), (.bsl 3 1 1 [(.d (.i .i64 0))] [(0, 1, (.t 45))]), none⟩, 14, false, [], (some 1)⟩, ⟨⟨(some 47), (.app 3 1 8 true (.t 44) (.t 46)), none⟩, 15, true, [], none⟩, ⟨⟨(some 32), (.mv (.t 0)), none⟩, 0, false, [], none⟩, ⟨⟨(some 48), (.nilchk (.t 32)), none⟩, 16, false, [15, 8], none⟩, ⟨⟨(some 49), (.fadd 1 (.t 48)), none⟩, 17, false, [15, 8], none⟩, ⟨⟨none, (.store 1 (.t 49) (.t 40)), none⟩, 18, true, [], none⟩, ⟨⟨(some 33), (.mv (.t 0)), none⟩, 1, false, [], none⟩, ⟨⟨(some 50), (.nilchk (.t 33)), none⟩, 19, false, [18, 15, 8], none⟩, ⟨⟨(some 51), (.fadd 2 (.t 50)), none⟩, 20, false, [18, 15, 8], none⟩, ⟨⟨none, (.store 1 (.t 51) (.t 47)), none⟩, 21, true, [], none⟩]))
 (.reg [⟨(some 30), (.mv (.t 6)), none⟩, ⟨(some 31), (.bin .add .bad (.t 30) (.c (.d (.i .i64 1)))), none⟩, ⟨(some 6), (.mv (.t 31)), none⟩]))))))
 (.seq (.reg [⟨(some 4), (.mv (.c (.d (.i .i64 0)))), none⟩])
 .ret))))), false⟩
/-- (*foreman/order.Order).Len -/
def a132 : AFn := ⟨10, [.tmp 2],
 (.seq (.reg [⟨(some 2), (.mv (.c (.d (.i .i64 0)))), none⟩])
 (.seq (.seq (.reg [⟨(some 3), (.mv (.t 0)), none⟩, ⟨(some 4), (.callf 55 [(.t 3)]), none⟩])
 (.cond (.t 4)
 (.seq (.reg [⟨(some 2), (.mv (.c (.d (.i .i64 0)))), none⟩])
 .ret)
 .skip))
 (.seq (.reg [⟨(some 5), (.mv (.t 0)), none⟩, ⟨(some 6), (.nilchk (.t 5)), none⟩, ⟨(some 7), (.fadd 0 (.t 6)), none⟩, ⟨(some 8), (.load false 1 (.t 7)), none⟩, ⟨(some 9), (.callf 178 [(.t 8)]), none⟩, ⟨(some 2), (.mv (.t 9)), none⟩])
 .ret))), false⟩
/-- foreman/bundle.Put -/
def a133 : AFn := ⟨48, [.tmp 6, .tmp 7],
 (.seq (.reg [⟨(some 6), (.mv (.c (.d (.i .i64 0)))), none⟩, ⟨(some 7), (.mv (.c (.d (.i .i64 0)))), none⟩])
 (.seq (.seq (.reg [⟨(some 15), (.mv (.t 0)), none⟩, ⟨(some 16), (.mv (.t 1)), none⟩, ⟨(some 17), (.mv (.t 2)), none⟩, ⟨(some 18), (.callf 179 [(.t 15), (.t 16), (.t 17)]), none⟩, ⟨(some 8), (.mv (.t 18)), none⟩])
 (.seq (.reg [⟨(some 19), (.mv (.t 8)), none⟩, ⟨(some 20), (.bin .neq .bad (.t 19) (.c (.d (.i .i64 0)))), none⟩])
 (.cond (.t 20)
 (.seq (.reg [⟨(some 21), (.mv (.t 8)), none⟩, ⟨(some 6), (.mv (.c (.d (.i .i64 0)))), none⟩, ⟨(some 7), (.mv (.t 21)), none⟩])
 .ret)
 .skip)))
 (.seq (.reg [⟨(some 22), (.mv (.t 0)), none⟩, ⟨(some 23), (.callf 28 [(.t 22)]), none⟩, ⟨(some 9), (.mv (.t 23)), none⟩])
 (.seq (.reg [⟨(some 24), (.mv (.t 0)), none⟩, ⟨(some 25), (.mv (.t 1)), none⟩, ⟨(some 26), (.mv (.t 2)), none⟩, ⟨(some 27), (.callf 180 [(.t 24), (.t 25), (.t 26)]), none⟩])
 (.seq (.reg [⟨(some 10), (.mv (.c (.d (.i .i64 0)))), none⟩])
 (.seq (.seq (.reg [⟨(some 28), (.mv (.t 9)), none⟩, ⟨(some 29), (.len 1 (.t 28)), none⟩, ⟨(some 30), (.mv (.c (.d (.i .i64 0)))), none⟩])
 (.blk 0 (.loop (.seq (.reg [⟨(some 31), (.bin .lss .bad (.t 30) (.t 29)), none⟩])
 (.seq (.cond (.t 31)
 .skip
 (.exit 0))
 (.seq (.blk 1 (.seq (.reg [⟨(some 32), (.mv (.t 30)), none⟩, ⟨(some 33), (.iaS 1 (.t 28) (.t 30)), none⟩, ⟨(some 34), (.load false 1 (.t 33)), none⟩, ⟨(some 11), (.mv (.t 32)), none⟩, ⟨(some 12), (.mv (.t 34)), none⟩])
 (.seq (.reg [⟨(some 36), (.mv (.t 0)), none⟩, ⟨(some 37), (.mv (.t 12)), none⟩, ⟨(some 38), (.callf 181 [(.t 36), (.t 37)]), none⟩, ⟨(some 35), (.mv (.t 38)), none⟩, ⟨(some 39), (.extr (.t 35) 0), none⟩, ⟨(some 40), (.extr (.t 35) 1), none⟩, ⟨(some 13), (.mv (.t 39)), none⟩, ⟨(some 14), (.mv (.t 40)), none⟩])
 (.seq (.reg [⟨(some 41), (.mv (.t 13)), none⟩, ⟨(some 42), (.mv (.t 11)), none⟩, ⟨(some 43), (.bin .neq .bad (.t 41) (.t 42)), none⟩])
 (.cond (.t 43)
 (.reg [⟨(some 44), (.mv (.t 10)), none⟩, ⟨(some 45), (.bin .add .bad (.t 44) (.c (.d (.i .i64 1)))), none⟩, ⟨(some 10), (.mv (.t 45)), none⟩])
 .skip)))))
 (.reg [⟨(some 46), (.bin .add .bad (.t 30) (.c (.d (.i .i64 1)))), none⟩, ⟨(some 30), (.mv (.t 46)), none⟩])))))))
 (.seq (.reg [⟨(some 47), (.mv (.t 10)), none⟩, ⟨(some 6), (.mv (.t 47)), none⟩, ⟨(some 7), (.mv (.c (.d (.i .i64 0)))), none⟩])
 .ret))))))), false⟩
/-- foreman/flow.Edges -/
def a134 : AFn := ⟨66, [.tmp 4],
 (.seq (.reg [⟨(some 4), (.mv (.c .nilsl)), none⟩])
 (.seq (.reg [⟨(some 5), (.mv (.c .nilsl)), none⟩])
 (.seq (.seq (.reg [⟨(some 10), (.mv (.t 1)), none⟩, ⟨(some 11), (.mx [(.t 10), (.c (.d (.i .i64 0)))]), none⟩, ⟨(some 6), (.mv (.t 11)), none⟩])
 (.blk 0 (.loop (.seq (.seq (.reg [⟨(some 12), (.mv (.t 6)), none⟩, ⟨(some 13), (.mv (.t 0)), none⟩, ⟨(some 14), (.len 1 (.t 13)), none⟩, ⟨(some 15), (.bin .lss .bad (.t 12) (.t 14)), none⟩])
 (.cond (.t 15)
 .skip
 (.exit 0)))
 (.seq (.blk 1 (.seq (.reg [⟨(some 18), (.mv (.t 5)), none⟩, ⟨(some 19), (.mv (.t 6)), none⟩, ⟨(some 20), (.callf 182 [(.t 19)]), none⟩, ⟨(some 21), (.mv (.t 6)), none⟩, ⟨(some 22), (.callf 183 [(.t 21)]), none⟩, ⟨(some 23), (.build [(.d (.i .i64 0)), (.d (.i .i64 0))] [(0, 1, (.t 20)), (1, 1, (.t 22))]), none⟩, ⟨(some 24), (.bsl 233 2 1 [(.d (.i .i64 0)), (.d (.i .i64 0))] [(0, 2, (.t 23))]), none⟩, ⟨(some 25), (.app 233 2 16 false (.t 18) (.t 24)), none⟩, ⟨(some 5), (.mv (.t 25)), none⟩])
 (.seq (.seq (.reg [⟨(some 26), (.mv (.t 0)), none⟩, ⟨(some 27), (.mv (.t 6)), none⟩, ⟨(some 28), (.iaS 16 (.t 26) (.t 27)), none⟩, ⟨(some 29), (.fadd 6 (.t 28)), none⟩, ⟨(some 30), (.load false 1 (.t 29)), none⟩, ⟨(some 31), (.len 1 (.t 30)), none⟩, ⟨(some 32), (.mv (.c (.d (.i .i64 0)))), none⟩])
 (.blk 2 (.loop (.seq (.reg [⟨(some 33), (.bin .lss .bad (.t 32) (.t 31)), none⟩])
 (.seq (.cond (.t 33)
 .skip
 (.exit 2))
 (.seq (.blk 3 (.seq (.reg [⟨(some 34), (.iaS 1 (.t 30) (.t 32)), none⟩, ⟨(some 35), (.load false 1 (.t 34)), none⟩, ⟨(some 8), (.mv (.t 35)), none⟩])
 (.reg [⟨(some 36), (.mv (.t 5)), none⟩, ⟨(some 37), (.mv (.t 8)), none⟩, ⟨(some 38), (.callf 183 [(.t 37)]), none⟩, ⟨(some 39), (.mv (.t 6)), none⟩, ⟨(some 40), (.callf 182 [(.t 39)]), none⟩, ⟨(some 41), (.build [(.d (.i .i64 0)), (.d (.i .i64 0))] [(0, 1, (.t 38)), (1, 1, (.t 40))]), none⟩, ⟨(some 42), (.bsl 233 2 1 [(.d (.i .i64 0)), (.d (.i .i64 0))] [(0, 2, (.t 41))]), none⟩, ⟨(some 43), (.app 233 2 16 false (.t 36) (.t 42)), none⟩, ⟨(some 5), (.mv (.t 43)), none⟩])))
 (.reg [⟨(some 44), (.bin .add .bad (.t 32) (.c (.d (.i .i64 1)))), none⟩, ⟨(some 32), (.mv (.t 44)), none⟩])))))))
 (.seq (.reg [⟨(some 45), (.mv (.t 0)), none⟩, ⟨(some 46), (.mv (.t 6)), none⟩, ⟨(some 47), (.iaS 16 (.t 45) (.t 46)), none⟩, ⟨(some 48), (.fadd 4 (.t 47)), none⟩, ⟨(some 49), (.load false 1 (.t 48)), none⟩, ⟨(some 9), (.mv (.t 49)), none⟩])
 (.seq (.reg [⟨(some 50), (.mv (.t 9)), none⟩, ⟨(some 51), (.bin .geq .bad (.t 50) (.c (.d (.i .i64 0)))), none⟩])
 (.cond (.t 51)
 (.reg [⟨(some 52), (.mv (.t 5)), none⟩, ⟨(some 53), (.mv (.t 9)), none⟩, ⟨(some 54), (.callf 182 [(.t 53)]), none⟩, ⟨(some 55), (.mv (.t 6)), none⟩, ⟨(some 56), (.callf 182 [(.t 55)]), none⟩, ⟨(some 57), (.build [(.d (.i .i64 0)), (.d (.i .i64 0))] [(0, 1, (.t 54)), (1, 1, (.t 56))]), none⟩, ⟨(some 58), (.mv (.t 6)), none⟩, ⟨(some 59), (.callf 183 [(.t 58)]), none⟩, ⟨(some 60), (.mv (.t 9)), none⟩, ⟨(some 61), (.callf 183 [(.t 60)]), none⟩, ⟨(some 62), (.build [(.d (.i .i64 0)), (.d (.i .i64 0))] [(0, 1, (.t 59)), (1, 1, (.t 61))]), none⟩, ⟨(some 63), (.bsl 233 2 2 [(.d (.i .i64 0)), (.d (.i .i64 0))] [(0, 2, (.t 57)), (2, 2, (.t 62))]), none⟩, ⟨(some 64), (.app 233 2 16 false (.t 52) (.t 63)), none⟩, ⟨(some 5), (.mv (.t 64)), none⟩])
 .skip))))))
 (.reg [⟨(some 16), (.mv (.t 6)), none⟩, ⟨(some 17), (.bin .add .bad (.t 16) (.c (.d (.i .i64 1)))), none⟩, ⟨(some 6), (.mv (.t 17)), none⟩]))))))
 (.seq (.reg [⟨(some 65), (.mv (.t 5)), none⟩, ⟨(some 4), (.mv (.t 65)), none⟩])
 .ret)))), false⟩
/-- slices.IndexFunc[[]foreman/api.Item,foreman/api.Item] -/
def a135 : AFn := ⟨19, [.tmp 4],
 (.seq (.reg [⟨(some 4), (.mv (.c (.d (.i .i64 0)))), none⟩])
 (.seq (.seq (.reg [⟨(some 6), (.mv (.t 0)), none⟩, ⟨(some 7), (.len 1 (.t 6)), none⟩, ⟨(some 8), (.mv (.c (.d (.i .i64 0)))), none⟩])
 (.blk 0 (.loop (.seq (.reg [⟨(some 9), (.bin .lss .bad (.t 8) (.t 7)), none⟩])
 (.seq (.cond (.t 9)
 .skip
 (.exit 0))
 (.seq (.blk 1 (.seq (.reg [⟨(some 10), (.mv (.t 8)), none⟩, ⟨(some 5), (.mv (.t 10)), none⟩])
 (.seq (.reg [⟨(some 11), (.mv (.t 1)), none⟩, ⟨(some 12), (.mv (.t 0)), none⟩, ⟨(some 13), (.mv (.t 5)), none⟩, ⟨(some 14), (.iaS 6 (.t 12) (.t 13)), none⟩, ⟨(some 15), (.load true 6 (.t 14)), none⟩, ⟨(some 16), (.callv (.t 11) [(.t 15)]), none⟩])
 (.cond (.t 16)
 (.seq (.reg [⟨(some 17), (.mv (.t 5)), none⟩, ⟨(some 4), (.mv (.t 17)), none⟩])
 .ret)
 .skip))))
 (.reg [⟨(some 18), (.bin .add .bad (.t 8) (.c (.d (.i .i64 1)))), none⟩, ⟨(some 8), (.mv (.t 18)), none⟩])))))))
 (.seq (.reg [⟨(some 4), (.mv (.c (.d (.i .i64 (-1))))), none⟩])
 .ret))), false⟩
/-- foreman/frag.Name -/
def a136 : AFn := ⟨16, [.tmp 2],
 (.seq (.reg [⟨(some 2), (.mv (.c (.d (.b false)))), none⟩])
 (.seq (.reg [⟨(some 3), (.mv (.t 0)), none⟩, ⟨(some 4), (.len 0 (.t 3)), none⟩, ⟨(some 5), (.bin .geq .bad (.t 4) (.c (.d (.i .i64 1)))), none⟩, ⟨(some 6), (.mv (.t 5)), none⟩, ⟨(some 7), (.mv (.t 0)), (some (6, true))⟩, ⟨(some 8), (.len 0 (.t 7)), (some (6, true))⟩, ⟨(some 9), (.bin .leq .bad (.t 8) (.c (.d (.i .i64 20)))), (some (6, true))⟩, ⟨(some 10), (.pick (.t 6) (.t 9) (.c (.d (.b false)))), none⟩, ⟨(some 11), (.mv (.t 10)), none⟩, ⟨(some 12), (.mv (.t 0)), (some (11, true))⟩, ⟨(some 13), (.callf 184 [(.t 12), (.c (.d (.s [97, 98, 99, 100, 101, 102, 103, 104, 105, 106, 107, 108, 109, 110, 111, 112, 113, 114, 115, 116, 117, 118, 119, 120, 121, 122, 48, 49, 50, 51, 52, 53, 54, 55, 56, 57, 95])))]), (some (11, true))⟩, ⟨(some 14), (.bin .eql .bad (.t 13) (.c (.d (.s [])))), (some (11, true))⟩, ⟨(some 15), (.pick (.t 11) (.t 14) (.c (.d (.b false)))), none⟩, ⟨(some 2), (.mv (.t 15)), none⟩])
 .ret)), false⟩
/-- foreman/frag.within -/
def a137 : AFn := ⟨12, [.tmp 4],
 (.seq (.reg [⟨(some 4), (.mv (.c (.d (.b false)))), none⟩])
 (.seq (.reg [⟨(some 5), (.mv (.t 0)), none⟩, ⟨(some 6), (.bin .geq .bad (.t 5) (.c (.d (.i .i64 0)))), none⟩, ⟨(some 7), (.mv (.t 6)), none⟩, ⟨(some 8), (.mv (.t 0)), (some (7, true))⟩, ⟨(some 9), (.mv (.t 1)), (some (7, true))⟩, ⟨(some 10), (.bin .leq .bad (.t 8) (.t 9)), (some (7, true))⟩, ⟨(some 11), (.pick (.t 7) (.t 10) (.c (.d (.b false)))), none⟩, ⟨(some 4), (.mv (.t 11)), none⟩])
 .ret)), false⟩
/-- slices.ContainsFunc[[]string,string] -/
def a138 : AFn := ⟨9, [.tmp 4],
 (.seq (.reg [⟨(some 4), (.mv (.c (.d (.b false)))), none⟩])
 (.seq (.reg [⟨(some 5), (.mv (.t 0)), none⟩, ⟨(some 6), (.mv (.t 1)), none⟩, ⟨(some 7), (.callf 185 [(.t 5), (.t 6)]), none⟩, ⟨(some 8), (.bin .geq .bad (.t 7) (.c (.d (.i .i64 0)))), none⟩, ⟨(some 4), (.mv (.t 8)), none⟩])
 .ret)), false⟩
/-- foreman/frag.fits$1 -/
def a139 : AFn := ⟨6, [.tmp 2],
 (.seq (.reg [⟨(some 2), (.mv (.c (.d (.b false)))), none⟩])
 (.seq (.reg [⟨(some 3), (.mv (.t 0)), none⟩, ⟨(some 4), (.callf 136 [(.t 3)]), none⟩, ⟨(some 5), (.un .not (.t 4)), none⟩, ⟨(some 2), (.mv (.t 5)), none⟩])
 .ret)), false⟩
/-- strings.IndexFunc -/
def a140 : AFn := ⟨8, [.tmp 4],
 (.seq (.reg [⟨(some 4), (.mv (.c (.d (.i .i64 0)))), none⟩])
 (.seq (.reg [⟨(some 5), (.mv (.t 0)), none⟩, ⟨(some 6), (.mv (.t 1)), none⟩, ⟨(some 7), (.callf 186 [(.t 5), (.t 6), (.c (.d (.b true)))]), none⟩, ⟨(some 4), (.mv (.t 7)), none⟩])
 .ret)), false⟩
/-- foreman/value.plain -/
def a141 : AFn := ⟨49, [.tmp 2],
 (.seq (.reg [⟨(some 1), (.box 24 (.t 0)), none⟩, ⟨(some 2), (.mv (.c (.d (.b false)))), none⟩])
 (.seq (.seq (.reg [⟨(some 3), (.fadd 0 (.t 1)), none⟩, ⟨(some 4), (.load false 1 (.t 3)), none⟩])
 (.blk 0 (.seq (.reg [⟨(some 6), (.bin .eql .bad (.t 4) (.c (.d (.i .u8 0)))), none⟩, ⟨(some 5), (.mv (.t 6)), none⟩])
 (.cond (.t 5)
 (.seq (.reg [⟨(some 7), (.fadd 2 (.t 1)), none⟩, ⟨(some 8), (.load false 1 (.t 7)), none⟩, ⟨(some 9), (.bin .eql .bad (.t 8) (.c (.d (.s [])))), none⟩, ⟨(some 10), (.mv (.t 9)), none⟩, ⟨(some 11), (.fadd 3 (.t 1)), (some (10, true))⟩, ⟨(some 12), (.load false 1 (.t 11)), (some (10, true))⟩, ⟨(some 13), (.len 1 (.t 12)), (some (10, true))⟩, ⟨(some 14), (.bin .eql .bad (.t 13) (.c (.d (.i .i64 0)))), (some (10, true))⟩, ⟨(some 15), (.pick (.t 10) (.t 14) (.c (.d (.b false)))), none⟩, ⟨(some 2), (.mv (.t 15)), none⟩])
 .ret)
 (.seq (.reg [⟨(some 17), (.bin .eql .bad (.t 4) (.c (.d (.i .u8 1)))), none⟩, ⟨(some 16), (.mv (.t 17)), none⟩])
 (.cond (.t 16)
 (.seq (.reg [⟨(some 18), (.fadd 1 (.t 1)), none⟩, ⟨(some 19), (.load false 1 (.t 18)), none⟩, ⟨(some 20), (.bin .eql .bad (.t 19) (.c (.d (.i .i64 0)))), none⟩, ⟨(some 21), (.mv (.t 20)), none⟩, ⟨(some 22), (.fadd 3 (.t 1)), (some (21, true))⟩, ⟨(some 23), (.load false 1 (.t 22)), (some (21, true))⟩, ⟨(some 24), (.len 1 (.t 23)), (some (21, true))⟩, ⟨(some 25), (.bin .eql .bad (.t 24) (.c (.d (.i .i64 0)))), (some (21, true))⟩, ⟨(some 26), (.pick (.t 21) (.t 25) (.c (.d (.b false)))), none⟩, ⟨(some 27), (.mv (.t 26)), none⟩, ⟨(some 28), (.fadd 2 (.t 1)), (some (27, true))⟩, ⟨(some 29), (.load false 1 (.t 28)), (some (27, true))⟩, ⟨(some 30), (.len 0 (.t 29)), (some (27, true))⟩, ⟨(some 31), (.bin .leq .bad (.t 30) (.c (.d (.i .i64 100)))), (some (27, true))⟩, ⟨(some 32), (.pick (.t 27) (.t 31) (.c (.d (.b false)))), none⟩, ⟨(some 2), (.mv (.t 32)), none⟩])
 .ret)
 (.seq (.reg [⟨(some 34), (.bin .eql .bad (.t 4) (.c (.d (.i .u8 2)))), none⟩, ⟨(some 33), (.mv (.t 34)), none⟩])
 (.cond (.t 33)
 (.seq (.reg [⟨(some 35), (.fadd 1 (.t 1)), none⟩, ⟨(some 36), (.load false 1 (.t 35)), none⟩, ⟨(some 37), (.bin .eql .bad (.t 36) (.c (.d (.i .i64 0)))), none⟩, ⟨(some 38), (.mv (.t 37)), none⟩, ⟨(some 39), (.fadd 2 (.t 1)), (some (38, true))⟩, ⟨(some 40), (.load false 1 (.t 39)), (some (38, true))⟩, ⟨(some 41), (.bin .eql .bad (.t 40) (.c (.d (.s [])))), (some (38, true))⟩, ⟨(some 42), (.pick (.t 38) (.t 41) (.c (.d (.b false)))), none⟩, ⟨(some 43), (.mv (.t 42)), none⟩, ⟨(some 44), (.fadd 3 (.t 1)), (some (43, true))⟩, ⟨(some 45), (.load false 1 (.t 44)), (some (43, true))⟩, ⟨(some 46), (.len 1 (.t 45)), (some (43, true))⟩, ⟨(some 47), (.bin .leq .bad (.t 46) (.c (.d (.i .i64 40)))), (some (43, true))⟩, ⟨(some 48), (.pick (.t 43) (.t 47) (.c (.d (.b false)))), none⟩, ⟨(some 2), (.mv (.t 48)), none⟩])
 .ret)
 .skip))))))))
 (.seq (.reg [⟨(some 2), (.mv (.c (.d (.b false)))), none⟩])
 .ret))), false⟩
/-- slices.ContainsFunc[[]foreman/api.Value,foreman/api.Value] -/
def a142 : AFn := ⟨9, [.tmp 4],
 (.seq (.reg [⟨(some 4), (.mv (.c (.d (.b false)))), none⟩])
 (.seq (.reg [⟨(some 5), (.mv (.t 0)), none⟩, ⟨(some 6), (.mv (.t 1)), none⟩, ⟨(some 7), (.callf 187 [(.t 5), (.t 6)]), none⟩, ⟨(some 8), (.bin .geq .bad (.t 7) (.c (.d (.i .i64 0)))), none⟩, ⟨(some 4), (.mv (.t 8)), none⟩])
 .ret)), false⟩
/-- (foreman/check.asked).all -/
def a144 : AFn := ⟨25, [.tmp 2],
 (.seq (.reg [⟨(some 1), (.box 196 (.t 0)), none⟩, ⟨(some 2), (.mv (.c (.d .nilf))), none⟩])
 (.seq (.reg [⟨(some 4), (.mkfn (.func 188) [] [(.t 1)]), none⟩, ⟨(some 5), (.build [(.d (.i .i64 0)), (.d .nilf)] [(0, 1, (.c (.d (.i .i64 2)))), (1, 1, (.t 4))]), none⟩, ⟨(some 6), (.load true 9 (.t 1)), none⟩, ⟨(some 7), (.mkfn (.func 189) [(.t 6)] []), none⟩, ⟨(some 8), (.build [(.d (.i .i64 0)), (.d .nilf)] [(0, 1, (.c (.d (.i .i64 24)))), (1, 1, (.t 7))]), none⟩, ⟨(some 9), (.load true 9 (.t 1)), none⟩, ⟨(some 10), (.mkfn (.func 190) [(.t 9)] []), none⟩, ⟨(some 11), (.build [(.d (.i .i64 0)), (.d .nilf)] [(0, 1, (.c (.d (.i .i64 20)))), (1, 1, (.t 10))]), none⟩, ⟨(some 12), (.load true 9 (.t 1)), none⟩, ⟨(some 13), (.mkfn (.func 191) [(.t 12)] []), none⟩, ⟨(some 14), (.build [(.d (.i .i64 0)), (.d .nilf)] [(0, 1, (.c (.d (.i .i64 23)))), (1, 1, (.t 13))]), none⟩, ⟨(some 15), (.load true 9 (.t 1)), none⟩, ⟨(some 16), (.mkfn (.func 192) [(.t 15)] []), none⟩, ⟨(some 17), (.build [(.d (.i .i64 0)), (.d .nilf)] [(0, 1, (.c (.d (.i .i64 21)))), (1, 1, (.t 16))]), none⟩, ⟨(some 18), (.mkfn (.func 193) [] [(.t 1)]), none⟩, ⟨(some 19), (.build [(.d (.i .i64 0)), (.d .nilf)] [(0, 1, (.c (.d (.i .i64 22)))), (1, 1, (.t 18))]), none⟩, ⟨(some 20), (.load true 9 (.t 1)), none⟩, ⟨(some 21), (.mkfn (.func 195) [(.t 20)] []), none⟩, ⟨(some 22), (.build [(.d (.i .i64 0)), (.d .nilf)] [(0, 1, (.c (.d (.i .i64 24)))), (1, 1, (.t 21))]), none⟩, ⟨(some 23), (.bsl 244 2 7 [(.d (.i .i64 0)), (.d .nilf)] [(0, 2, (.t 5)), (2, 2, (.t 8)), (4, 2, (.t 11)), (6, 2, (.t 14)), (8, 2, (.t 17)), (10, 2, (.t 19)), (12, 2, (.t 22))]), none⟩, ⟨(some 3), (.alloc 246 [.nilsl]), none⟩, ⟨none, (.store 1 (.t 3) (.t 23)), none⟩])
 (.seq (.reg [⟨(some 24), (.mkfn (.func 196) [] [(.t 3)]), none⟩, ⟨(some 2), (.mv (.t 24)), none⟩])
 .ret))), true⟩
/-- foreman/build.Make$1 -/
def a145 : AFn := ⟨32, [.tmp 6],
 (.seq (.reg [⟨(some 6), (.mv (.c (.d (.i .i64 0)))), none⟩])
 (.seq (.reg [⟨(some 11), (.fadd 6 (.t 1)), none⟩, ⟨(some 12), (.load false 1 (.t 11)), none⟩, ⟨(some 13), (.load false 1 (.t 2)), none⟩, ⟨(some 14), (.load false 1 (.t 3)), none⟩, ⟨(some 15), (.mv (.t 0)), none⟩, ⟨(some 16), (.callf 146 [(.t 12), (.t 13), (.t 14), (.t 15)]), none⟩, ⟨(some 10), (.mv (.t 16)), none⟩, ⟨(some 17), (.extr (.t 10) 0), none⟩, ⟨(some 18), (.extr (.t 10) 1), none⟩, ⟨(some 19), (.extr (.t 10) 2), none⟩, ⟨(some 7), (.mv (.t 17)), none⟩, ⟨(some 8), (.mv (.t 18)), none⟩, ⟨(some 9), (.mv (.t 19)), none⟩])
 (.seq (.blk 0 (.seq (.reg [⟨(some 21), (.mv (.t 9)), none⟩, ⟨(some 22), (.un .not (.t 21)), none⟩, ⟨(some 20), (.mv (.t 22)), none⟩])
 (.cond (.t 20)
 (.seq (.reg [⟨none, (.store 1 (.t 4) (.c (.d (.i .i64 21)))), none⟩])
 (.seq (.reg [⟨(some 6), (.mv (.c (.d (.i .i64 0)))), none⟩])
 .ret))
 (.seq (.reg [⟨(some 24), (.mv (.t 7)), none⟩, ⟨(some 25), (.bin .geq .bad (.t 24) (.c (.d (.i .i64 0)))), none⟩, ⟨(some 23), (.mv (.t 25)), none⟩])
 (.cond (.t 23)
 (.seq (.reg [⟨(some 26), (.fadd 6 (.t 1)), none⟩, ⟨(some 27), (.load false 1 (.t 26)), none⟩, ⟨(some 28), (.len 1 (.t 27)), none⟩, ⟨(some 29), (.mv (.t 7)), none⟩, ⟨(some 30), (.bin .add .bad (.t 28) (.t 29)), none⟩, ⟨(some 6), (.mv (.t 30)), none⟩])
 .ret)
 .skip)))))
 (.seq (.reg [⟨(some 31), (.mv (.t 8)), none⟩, ⟨(some 6), (.mv (.t 31)), none⟩])
 .ret)))), false⟩
/-- foreman/check.Refs -/
def a146 : AFn := ⟨20, [.tmp 8, .tmp 9, .tmp 10],
 (.seq (.reg [⟨(some 8), (.mv (.c (.d (.i .i64 0)))), none⟩, ⟨(some 9), (.mv (.c (.d (.i .i64 0)))), none⟩, ⟨(some 10), (.mv (.c (.d (.b false)))), none⟩])
 (.seq (.reg [⟨(some 11), (.mv (.t 0)), none⟩, ⟨(some 12), (.mv (.t 1)), none⟩, ⟨(some 13), (.mv (.t 2)), none⟩, ⟨(some 14), (.build [(.d (.i .i64 0)), (.d (.i .i64 0)), (.d (.i .i64 0)), (.d (.i .i64 0)), (.d (.i .i64 0)), .nilsl, (.d (.i .i64 0)), (.d (.i .i64 0)), .nilsl] [(5, 1, (.t 11)), (6, 1, (.t 12)), (8, 1, (.t 13))]), none⟩, ⟨(some 15), (.mv (.t 3)), none⟩, ⟨(some 16), (.callf 197 [(.t 14), (.t 15)]), none⟩, ⟨(some 17), (.extr (.t 16) 0), none⟩, ⟨(some 18), (.extr (.t 16) 1), none⟩, ⟨(some 19), (.extr (.t 16) 2), none⟩, ⟨(some 8), (.mv (.t 17)), none⟩, ⟨(some 9), (.mv (.t 18)), none⟩, ⟨(some 10), (.mv (.t 19)), none⟩])
 .ret)), false⟩
/-- foreman/build.under -/
def a147 : AFn := ⟨18, [.tmp 6],
 (.seq (.reg [⟨(some 3), (.box 36 (.t 0)), none⟩, ⟨(some 6), (.mv (.c (.d (.s [])))), none⟩])
 (.seq (.seq (.reg [⟨(some 7), (.mv (.t 2)), none⟩, ⟨(some 8), (.bin .lss .bad (.t 7) (.c (.d (.i .i64 0)))), none⟩])
 (.cond (.t 8)
 (.seq (.reg [⟨(some 9), (.mv (.t 1)), none⟩, ⟨(some 10), (.build [(.d (.i .i64 0)), .nilsl] [(0, 1, (.t 9))]), none⟩, ⟨(some 11), (.callf 173 [(.t 10)]), none⟩, ⟨(some 6), (.mv (.t 11)), none⟩])
 .ret)
 .skip))
 (.seq (.reg [⟨(some 12), (.fadd 6 (.t 3)), none⟩, ⟨(some 13), (.load false 1 (.t 12)), none⟩, ⟨(some 14), (.mv (.t 2)), none⟩, ⟨(some 15), (.iaS 16 (.t 13) (.t 14)), none⟩, ⟨(some 16), (.fadd 0 (.t 15)), none⟩, ⟨(some 17), (.load false 1 (.t 16)), none⟩, ⟨(some 6), (.mv (.t 17)), none⟩])
 .ret))), false⟩
/-- slices.Concat[[]foreman/api.Node,foreman/api.Node] -/
def a149 : AFn := ⟨36, [.tmp 2],
 (.seq (.reg [⟨(some 2), (.mv (.c .nilsl)), none⟩])
 (.seq (.reg [⟨(some 3), (.mv (.c (.d (.i .i64 0)))), none⟩])
 (.seq (.seq (.reg [⟨(some 9), (.mv (.t 0)), none⟩, ⟨(some 10), (.len 1 (.t 9)), none⟩, ⟨(some 11), (.mv (.c (.d (.i .i64 0)))), none⟩])
 (.blk 0 (.loop (.seq (.reg [⟨(some 12), (.bin .lss .bad (.t 11) (.t 10)), none⟩])
 (.seq (.cond (.t 12)
 .skip
 (.exit 0))
 (.seq (.blk 1 (.seq (.reg [⟨(some 13), (.iaS 1 (.t 9) (.t 11)), none⟩, ⟨(some 14), (.load false 1 (.t 13)), none⟩, ⟨(some 5), (.mv (.t 14)), none⟩])
 (.seq (.reg [⟨(some 15), (.mv (.t 3)), none⟩, ⟨(some 16), (.mv (.t 5)), none⟩, ⟨(some 17), (.len 1 (.t 16)), none⟩, ⟨(some 18), (.bin .add .bad (.t 15) (.t 17)), none⟩, ⟨(some 3), (.mv (.t 18)), none⟩])
 (.seq (.reg [⟨(some 19), (.mv (.t 3)), none⟩, ⟨(some 20), (.bin .lss .bad (.t 19) (.c (.d (.i .i64 0)))), none⟩])
 (.cond (.t 20)
 (.reg [⟨(some 21), (.mkif 9 (.c (.d (.s [108, 101, 110, 32, 111, 117, 116, 32, 111, 102, 32, 114, 97, 110, 103, 101])))), none⟩, ⟨none, (.panic (.t 21)), none⟩])
 .skip)))))
 (.reg [⟨(some 22), (.bin .add .bad (.t 11) (.c (.d (.i .i64 1)))), none⟩, ⟨(some 11), (.mv (.t 22)), none⟩])))))))
 (.seq (.reg [⟨(some 23), (.mv (.t 3)), none⟩, ⟨(some 24), (.callf 198 [(.c .nilsl), (.t 23)]), none⟩, ⟨(some 6), (.mv (.t 24)), none⟩])
 (.seq (.seq (.reg [⟨(some 25), (.mv (.t 0)), none⟩, ⟨(some 26), (.len 1 (.t 25)), none⟩, ⟨(some 27), (.mv (.c (.d (.i .i64 0)))), none⟩])
 (.blk 2 (.loop (.seq (.reg [⟨(some 28), (.bin .lss .bad (.t 27) (.t 26)), none⟩])
 (.seq (.cond (.t 28)
 .skip
 (.exit 2))
 (.seq (.blk 3 (.seq (.reg [⟨(some 29), (.iaS 1 (.t 25) (.t 27)), none⟩, ⟨(some 30), (.load false 1 (.t 29)), none⟩, ⟨(some 8), (.mv (.t 30)), none⟩])
 (.reg [⟨(some 31), (.mv (.t 6)), none⟩, ⟨(some 32), (.mv (.t 8)), none⟩, ⟨(some 33), (.app 64 16 184 false (.t 31) (.t 32)), none⟩, ⟨(some 6), (.mv (.t 33)), none⟩])))
 (.reg [⟨(some 34), (.bin .add .bad (.t 27) (.c (.d (.i .i64 1)))), none⟩, ⟨(some 27), (.mv (.t 34)), none⟩])))))))
 (.seq (.reg [⟨(some 35), (.mv (.t 6)), none⟩, ⟨(some 2), (.mv (.t 35)), none⟩])
 .ret)))))), false⟩
/-- foreman/join.Due -/
def a150 : AFn := ⟨20, [.tmp 2],
 (.seq (.reg [⟨(some 1), (.box 36 (.t 0)), none⟩, ⟨(some 2), (.mv (.c .nilsl)), none⟩])
 (.seq (.reg [⟨(some 3), (.mv (.c .nilsl)), none⟩])
 (.seq (.seq (.reg [⟨(some 5), (.fadd 6 (.t 1)), none⟩, ⟨(some 6), (.load false 1 (.t 5)), none⟩, ⟨(some 7), (.len 1 (.t 6)), none⟩, ⟨(some 8), (.mv (.c (.d (.i .i64 0)))), none⟩])
 (.blk 0 (.loop (.seq (.reg [⟨(some 9), (.bin .lss .bad (.t 8) (.t 7)), none⟩])
 (.seq (.cond (.t 9)
 .skip
 (.exit 0))
 (.seq (.blk 1 (.seq (.reg [⟨(some 10), (.mv (.t 8)), none⟩, ⟨(some 4), (.mv (.t 10)), none⟩])
 (.seq (.reg [⟨(some 11), (.load true 8 (.t 1)), none⟩, ⟨(some 12), (.mv (.t 4)), none⟩, ⟨(some 13), (.callf 199 [(.t 11), (.t 12)]), none⟩])
 (.cond (.t 13)
 (.reg [⟨(some 14), (.mv (.t 3)), none⟩, ⟨(some 15), (.mv (.t 4)), none⟩, ⟨(some 16), (.bsl 3 1 1 [(.d (.i .i64 0))] [(0, 1, (.t 15))]), none⟩, ⟨(some 17), (.app 3 1 8 false (.t 14) (.t 16)), none⟩, ⟨(some 3), (.mv (.t 17)), none⟩])
 .skip))))
 (.reg [⟨(some 18), (.bin .add .bad (.t 8) (.c (.d (.i .i64 1)))), none⟩, ⟨(some 8), (.mv (.t 18)), none⟩])))))))
 (.seq (.reg [⟨(some 19), (.mv (.t 3)), none⟩, ⟨(some 2), (.mv (.t 19)), none⟩])
 .ret)))), false⟩
/-- foreman/join.Do -/
def a151 : AFn := ⟨46, [.cell 4 true 8, .tmp 5],
 (.seq (.reg [⟨(some 2), (.box 36 (.t 0)), none⟩, ⟨(some 4), (.alloc 36 [(.d (.i .i64 0)), (.d (.i .i64 0)), (.d (.i .i64 0)), (.d (.i .i64 0)), (.d (.i .i64 0)), (.d (.i .i64 0)), .nilsl, (.d (.i .i64 0))]), none⟩, ⟨(some 5), (.mv (.c (.d (.b false)))), none⟩])
 (.seq (.seq (.reg [⟨(some 6), (.load true 8 (.t 2)), none⟩, ⟨(some 7), (.mv (.t 1)), none⟩, ⟨(some 8), (.callf 96 [(.t 6), (.t 7)]), none⟩, ⟨(some 9), (.un .not (.t 8)), none⟩, ⟨(some 10), (.mv (.t 9)), none⟩, ⟨(some 11), (.load true 8 (.t 2)), (some (10, false))⟩, ⟨(some 12), (.mv (.t 1)), (some (10, false))⟩, ⟨(some 13), (.callf 199 [(.t 11), (.t 12)]), (some (10, false))⟩, ⟨(some 14), (.un .not (.t 13)), (some (10, false))⟩, ⟨(some 15), (.pick (.t 10) (.c (.d (.b true))) (.t 14)), none⟩])
 (.cond (.t 15)
 (.seq (.reg [⟨(some 16), (.load true 8 (.t 2)), none⟩, ⟨(some 17), (.callf 95 [(.t 16)]), none⟩, ⟨none, (.store 8 (.t 4) (.t 17)), none⟩, ⟨(some 5), (.mv (.c (.d (.b false)))), none⟩])
 .ret)
 .skip))
 (.seq (.reg [⟨(some 18), (.load true 8 (.t 2)), none⟩, ⟨(some 19), (.callf 95 [(.t 18)]), none⟩, ⟨none, (.store 8 (.t 2) (.t 19)), none⟩])
 (.seq (.blk 0 (.seq (.reg [⟨(some 24), (.fadd 6 (.t 2)), none⟩, ⟨(some 25), (.load false 1 (.t 24)), none⟩, ⟨(some 26), (.mv (.t 1)), none⟩, ⟨(some 27), (.iaS 16 (.t 25) (.t 26)), none⟩, ⟨(some 28), (.fadd 9 (.t 27)), none⟩, ⟨(some 29), (.load false 1 (.t 28)), none⟩, ⟨(some 30), (.bin .eql .bad (.t 29) (.c (.d (.i .u8 3)))), none⟩, ⟨(some 23), (.mv (.t 30)), none⟩])
 (.cond (.t 23)
 (.reg [⟨(some 31), (.load true 8 (.t 2)), none⟩, ⟨(some 32), (.mv (.t 1)), none⟩, ⟨(some 33), (.callf 200 [(.t 31), (.t 32)]), none⟩])
 (.seq (.reg [⟨(some 35), (.fadd 6 (.t 2)), none⟩, ⟨(some 36), (.load false 1 (.t 35)), none⟩, ⟨(some 37), (.mv (.t 1)), none⟩, ⟨(some 38), (.iaS 16 (.t 36) (.t 37)), none⟩, ⟨(some 39), (.fadd 2 (.t 38)), none⟩, ⟨(some 40), (.load false 1 (.t 39)), none⟩, ⟨(some 41), (.bin .eql .bad (.t 40) (.c (.d (.i .u8 1)))), none⟩, ⟨(some 34), (.mv (.t 41)), none⟩])
 (.cond (.t 34)
 (.reg [⟨(some 42), (.load true 8 (.t 2)), none⟩, ⟨(some 43), (.mv (.t 1)), none⟩, ⟨(some 44), (.callf 201 [(.t 42), (.t 43)]), none⟩, ⟨none, (.store 8 (.t 2) (.t 44)), none⟩])
 (.reg [⟨(some 20), (.load true 8 (.t 2)), none⟩, ⟨(some 21), (.mv (.t 1)), none⟩, ⟨(some 22), (.callf 156 [(.t 20), (.t 21), (.c (.d (.i .u8 1)))]), none⟩]))))))
 (.seq (.reg [⟨(some 45), (.load true 8 (.t 2)), none⟩, ⟨none, (.store 8 (.t 4) (.t 45)), none⟩, ⟨(some 5), (.mv (.c (.d (.b true)))), none⟩])
 .ret))))), false⟩
/-- foreman/flow.all$1 -/
def a152 : AFn := ⟨9, [.tmp 3],
 (.seq (.reg [⟨(some 2), (.box 64 (.t 0)), none⟩, ⟨(some 3), (.mv (.c (.d (.b false)))), none⟩])
 (.seq (.reg [⟨(some 4), (.load false 1 (.t 1)), none⟩, ⟨(some 5), (.fadd 9 (.t 2)), none⟩, ⟨(some 6), (.load false 1 (.t 5)), none⟩, ⟨(some 7), (.callv (.t 4) [(.t 6)]), none⟩, ⟨(some 8), (.un .not (.t 7)), none⟩, ⟨(some 3), (.mv (.t 8)), none⟩])
 .ret)), false⟩
/-- foreman/flow.not$1 -/
def a153 : AFn := ⟨8, [.tmp 3],
 (.seq (.reg [⟨(some 3), (.mv (.c (.d (.b false)))), none⟩])
 (.seq (.reg [⟨(some 4), (.load false 1 (.t 1)), none⟩, ⟨(some 5), (.mv (.t 0)), none⟩, ⟨(some 6), (.callv (.t 4) [(.t 5)]), none⟩, ⟨(some 7), (.un .not (.t 6)), none⟩, ⟨(some 3), (.mv (.t 7)), none⟩])
 .ret)), false⟩
/-- foreman/flow.is$1 -/
def a154 : AFn := ⟨7, [.tmp 3],
 (.seq (.reg [⟨(some 3), (.mv (.c (.d (.b false)))), none⟩])
 (.seq (.reg [⟨(some 4), (.mv (.t 0)), none⟩, ⟨(some 5), (.load false 1 (.t 1)), none⟩, ⟨(some 6), (.bin .eql .bad (.t 4) (.t 5)), none⟩, ⟨(some 3), (.mv (.t 6)), none⟩])
 .ret)), false⟩
/-- foreman/join.become -/
def a156 : AFn := ⟨28, [],
 (.seq (.reg [⟨(some 3), (.box 36 (.t 0)), none⟩])
 (.seq (.reg [⟨(some 7), (.fadd 6 (.t 3)), none⟩, ⟨(some 8), (.load false 1 (.t 7)), none⟩, ⟨(some 9), (.mv (.t 1)), none⟩, ⟨(some 10), (.iaS 16 (.t 8) (.t 9)), none⟩, ⟨(some 6), (.mv (.t 10)), none⟩])
 (.seq (.reg [⟨(some 11), (.mv (.t 6)), none⟩, ⟨(some 12), (.mv (.t 6)), none⟩, ⟨(some 13), (.mv (.t 2)), none⟩, ⟨(some 14), (.nilchk (.t 11)), none⟩, ⟨(some 15), (.fadd 9 (.t 14)), none⟩, ⟨none, (.store 1 (.t 15) (.t 13)), none⟩, ⟨(some 16), (.nilchk (.t 12)), none⟩, ⟨(some 17), (.fadd 11 (.t 16)), none⟩, ⟨none, (.store 1 (.t 17) (.c (.d (.i .i64 0)))), none⟩])
 (.seq (.reg [⟨(some 18), (.mv (.t 2)), none⟩, ⟨(some 19), (.bin .eql .bad (.t 18) (.c (.d (.i .u8 5)))), none⟩, ⟨(some 20), (.mv (.t 19)), none⟩, ⟨(some 21), (.mv (.t 2)), (some (20, false))⟩, ⟨(some 22), (.bin .eql .bad (.t 21) (.c (.d (.i .u8 6)))), (some (20, false))⟩, ⟨(some 23), (.pick (.t 20) (.c (.d (.b true))) (.t 22)), none⟩])
 (.cond (.t 23)
 (.reg [⟨(some 24), (.mv (.t 6)), none⟩, ⟨(some 25), (.build [(.d (.i .u8 0)), (.d (.i .i64 0)), (.d (.s [])), .nilsl] []), none⟩, ⟨(some 26), (.nilchk (.t 24)), none⟩, ⟨(some 27), (.fadd 12 (.t 26)), none⟩, ⟨none, (.store 4 (.t 27) (.t 25)), none⟩])
 .skip))))), true⟩
/-- strings.splitSeq -/
def a157 : AFn := ⟨8, [.tmp 6],
 (.seq (.reg [⟨(some 3), (.box 9 (.t 0)), none⟩, ⟨(some 4), (.box 9 (.t 1)), none⟩, ⟨(some 5), (.box 3 (.t 2)), none⟩, ⟨(some 6), (.mv (.c (.d .nilf))), none⟩])
 (.seq (.reg [⟨(some 7), (.mkfn (.func 204) [] [(.t 4), (.t 3), (.t 5)]), none⟩, ⟨(some 6), (.mv (.t 7)), none⟩])
 .ret)), true⟩
/-- strconv.Atoi -/
def a158 : AFn := ⟨18, [.tmp 2, .tmp 3],
 (.seq (.reg [⟨(some 2), (.mv (.c (.d (.i .i64 0)))), none⟩, ⟨(some 3), (.mv (.c (.d .nili))), none⟩])
 (.seq (.reg [⟨(some 7), (.mv (.t 0)), none⟩, ⟨(some 8), (.callf 207 [(.t 7)]), none⟩, ⟨(some 6), (.mv (.t 8)), none⟩, ⟨(some 9), (.extr (.t 6) 0), none⟩, ⟨(some 10), (.extr (.t 6) 1), none⟩, ⟨(some 4), (.mv (.t 9)), none⟩, ⟨(some 5), (.mv (.t 10)), none⟩])
 (.seq (.seq (.reg [⟨(some 11), (.mv (.t 5)), none⟩, ⟨(some 12), (.bin .neq .iface (.t 11) (.c (.d .nili))), none⟩])
 (.cond (.t 12)
 (.seq (.reg [⟨(some 13), (.mv (.t 4)), none⟩, ⟨(some 14), (.mv (.t 0)), none⟩, ⟨(some 15), (.mv (.t 5)), none⟩, ⟨(some 16), (.callf 208 [(.c (.d (.s [65, 116, 111, 105]))), (.t 14), (.c (.d (.i .i64 0))), (.c (.d (.i .i64 0))), (.t 15)]), none⟩, ⟨(some 2), (.mv (.t 13)), none⟩, ⟨(some 3), (.mv (.t 16)), none⟩])
 .ret)
 .skip))
 (.seq (.reg [⟨(some 17), (.mv (.t 4)), none⟩, ⟨(some 2), (.mv (.t 17)), none⟩, ⟨(some 3), (.mv (.c (.d .nili))), none⟩])
 .ret)))), true⟩
/-- foreman/ident.may -/
def a159 : AFn := ⟨9, [.tmp 2],
 (.seq (.reg [⟨(some 2), (.mv (.c (.d (.b false)))), none⟩])
 (.seq (.reg [⟨(some 3), (.mv (.t 0)), none⟩, ⟨(some 4), (.bin .geq .bad (.t 3) (.c (.d (.i .i64 0)))), none⟩, ⟨(some 5), (.mv (.t 4)), none⟩, ⟨(some 6), (.mv (.t 0)), (some (5, true))⟩, ⟨(some 7), (.bin .leq .bad (.t 6) (.c (.d (.i .i64 999999)))), (some (5, true))⟩, ⟨(some 8), (.pick (.t 5) (.t 7) (.c (.d (.b false)))), none⟩, ⟨(some 2), (.mv (.t 8)), none⟩])
 .ret)), false⟩
/-- strconv.Itoa -/
def a160 : AFn := ⟨5, [.tmp 2],
 (.seq (.reg [⟨(some 2), (.mv (.c (.d (.s [])))), none⟩])
 (.seq (.reg [⟨(some 3), (.mv (.t 0)), none⟩, ⟨(some 4), (.callf 209 [(.t 3)]), none⟩, ⟨(some 2), (.mv (.t 4)), none⟩])
 .ret)), false⟩
/-- foreman/join.fall$1 -/
def a163 : AFn := ⟨29, [],
 (.seq (.reg [⟨(some 5), (.mv (.t 0)), none⟩, ⟨(some 6), (.bsl 3 1 1 [(.d (.i .i64 0))] [(0, 1, (.t 5))]), none⟩, ⟨(some 7), (.fadd 6 (.t 1)), none⟩, ⟨(some 8), (.load false 1 (.t 7)), none⟩, ⟨(some 9), (.mv (.t 0)), none⟩, ⟨(some 10), (.callf 164 [(.t 8), (.t 9)]), none⟩, ⟨(some 11), (.app 3 1 8 false (.t 6) (.t 10)), none⟩, ⟨(some 12), (.len 1 (.t 11)), none⟩, ⟨(some 13), (.mv (.c (.d (.i .i64 0)))), none⟩])
 (.blk 0 (.loop (.seq (.reg [⟨(some 14), (.bin .lss .bad (.t 13) (.t 12)), none⟩])
 (.seq (.cond (.t 14)
 .skip
 (.exit 0))
 (.seq (.blk 1 (.seq (.reg [⟨(some 15), (.iaS 1 (.t 11) (.t 13)), none⟩, ⟨(some 16), (.load false 1 (.t 15)), none⟩, ⟨(some 4), (.mv (.t 16)), none⟩])
 (.seq (.reg [⟨(some 17), (.fadd 6 (.t 1)), none⟩, ⟨(some 18), (.load false 1 (.t 17)), none⟩, ⟨(some 19), (.mv (.t 4)), none⟩, ⟨(some 20), (.iaS 16 (.t 18) (.t 19)), none⟩, ⟨(some 21), (.fadd 9 (.t 20)), none⟩, ⟨(some 22), (.load false 1 (.t 21)), none⟩, ⟨(some 23), (.callf 165 [(.t 22)]), none⟩, ⟨(some 24), (.un .not (.t 23)), none⟩])
 (.cond (.t 24)
 (.reg [⟨(some 25), (.load true 8 (.t 1)), none⟩, ⟨(some 26), (.mv (.t 4)), none⟩, ⟨(some 27), (.callf 156 [(.t 25), (.t 26), (.c (.d (.i .u8 6)))]), none⟩])
 .skip))))
 (.reg [⟨(some 28), (.bin .add .bad (.t 13) (.c (.d (.i .i64 1)))), none⟩, ⟨(some 13), (.mv (.t 28)), none⟩]))))))), false⟩
/-- foreman/scope.Below -/
def a164 : AFn := ⟨40, [.tmp 4],
 (.seq (.reg [⟨(some 2), (.box 34 (.t 0)), none⟩, ⟨(some 3), (.box 3 (.t 1)), none⟩, ⟨(some 4), (.mv (.c .nilsl)), none⟩])
 (.seq (.seq (.reg [⟨(some 9), (.load false 1 (.t 2)), none⟩, ⟨(some 10), (.load false 1 (.t 3)), none⟩, ⟨(some 11), (.callf 174 [(.t 9), (.t 10)]), none⟩, ⟨(some 12), (.un .not (.t 11)), none⟩])
 (.cond (.t 12)
 (.seq (.reg [⟨(some 4), (.mv (.c .nilsl)), none⟩])
 .ret)
 .skip))
 (.seq (.reg [⟨(some 13), (.load false 1 (.t 2)), none⟩, ⟨(some 14), (.len 1 (.t 13)), none⟩, ⟨(some 15), (.mksl 4 1 1 [(.d (.b false))] (.t 14) (.t 14)), none⟩, ⟨(some 5), (.alloc 257 [.nilsl]), none⟩, ⟨none, (.store 1 (.t 5) (.t 15)), none⟩])
 (.seq (.reg [⟨(some 16), (.mkfn (.func 212) [] [(.t 2), (.t 3), (.t 5)]), none⟩, ⟨(some 6), (.mv (.t 16)), none⟩])
 (.seq (.reg [⟨(some 7), (.mv (.c .nilsl)), none⟩])
 (.seq (.seq (.reg [⟨(some 17), (.load false 1 (.t 3)), none⟩, ⟨(some 18), (.bin .add .bad (.t 17) (.c (.d (.i .i64 1)))), none⟩, ⟨(some 8), (.mv (.t 18)), none⟩])
 (.blk 0 (.loop (.seq (.seq (.reg [⟨(some 19), (.mv (.t 8)), none⟩, ⟨(some 20), (.load false 1 (.t 2)), none⟩, ⟨(some 21), (.len 1 (.t 20)), none⟩, ⟨(some 22), (.bin .lss .bad (.t 19) (.t 21)), none⟩])
 (.cond (.t 22)
 .skip
 (.exit 0)))
 (.seq (.blk 1 (.seq (.dreg 0 [⟨⟨(some 27), (.mv (.t 6)), none⟩, 2, false, [], none⟩, ⟨⟨(some 28), (.mv (.t 8)), none⟩, 3, false, [], none⟩, ⟨⟨(some 29), (.callv (.t 27) [(.t 28)]), none⟩, 4, true, [], none⟩, ⟨⟨(some 25), (.load false 1 (.t 5)), none⟩, 0, false, [], none⟩, ⟨⟨(some 26), (.mv (.t 8)), none⟩, 1, false, [], none⟩, ⟨⟨(some 30), (.iaS 1 (.t 25) (.t 26)), none⟩, 5, false, [4], none⟩, ⟨⟨none, (.store 1 (.t 30) (.t 29)), none⟩, 6, true, [], none⟩])
 (.seq (.reg [⟨(some 31), (.load false 1 (.t 5)), none⟩, ⟨(some 32), (.mv (.t 8)), none⟩, ⟨(some 33), (.iaS 1 (.t 31) (.t 32)), none⟩, ⟨(some 34), (.load false 1 (.t 33)), none⟩])
 (.cond (.t 34)
 (.reg [⟨(some 35), (.mv (.t 7)), none⟩, ⟨(some 36), (.mv (.t 8)), none⟩, ⟨(some 37), (.bsl 3 1 1 [(.d (.i .i64 0))] [(0, 1, (.t 36))]), none⟩, ⟨(some 38), (.app 3 1 8 false (.t 35) (.t 37)), none⟩, ⟨(some 7), (.mv (.t 38)), none⟩])
 .skip))))
 (.reg [⟨(some 23), (.mv (.t 8)), none⟩, ⟨(some 24), (.bin .add .bad (.t 23) (.c (.d (.i .i64 1)))), none⟩, ⟨(some 8), (.mv (.t 24)), none⟩]))))))
 (.seq (.reg [⟨(some 39), (.mv (.t 7)), none⟩, ⟨(some 4), (.mv (.t 39)), none⟩])
 .ret))))))), false⟩
/-- foreman/join.final -/
def a165 : AFn := ⟨9, [.tmp 2],
 (.seq (.reg [⟨(some 2), (.mv (.c (.d (.b false)))), none⟩])
 (.seq (.reg [⟨(some 3), (.mv (.t 0)), none⟩, ⟨(some 4), (.bin .geq .bad (.t 3) (.c (.d (.i .u8 4)))), none⟩, ⟨(some 5), (.mv (.t 4)), none⟩, ⟨(some 6), (.mv (.t 0)), (some (5, true))⟩, ⟨(some 7), (.bin .leq .bad (.t 6) (.c (.d (.i .u8 6)))), (some (5, true))⟩, ⟨(some 8), (.pick (.t 5) (.t 7) (.c (.d (.b false)))), none⟩, ⟨(some 2), (.mv (.t 8)), none⟩])
 .ret)), false⟩
/-- slices.ContainsFunc[[]foreman/snap.field,foreman/snap.field] -/
def a166 : AFn := ⟨9, [.tmp 4],
 (.seq (.reg [⟨(some 4), (.mv (.c (.d (.b false)))), none⟩])
 (.seq (.reg [⟨(some 5), (.mv (.t 0)), none⟩, ⟨(some 6), (.mv (.t 1)), none⟩, ⟨(some 7), (.callf 213 [(.t 5), (.t 6)]), none⟩, ⟨(some 8), (.bin .geq .bad (.t 7) (.c (.d (.i .i64 0)))), none⟩, ⟨(some 4), (.mv (.t 8)), none⟩])
 .ret)), false⟩
/-- foreman/snap.fit$1 -/
def a167 : AFn := ⟨19, [.tmp 2],
 (.seq (.reg [⟨(some 1), (.box 223 (.t 0)), none⟩, ⟨(some 2), (.mv (.c (.d (.b false)))), none⟩])
 (.seq (.dreg 0 [⟨⟨(some 3), (.fadd 0 (.t 1)), none⟩, 0, false, [], none⟩, ⟨⟨(some 4), (.load false 1 (.t 3)), none⟩, 1, false, [], none⟩, ⟨⟨(some 5), (.nilchk (.t 4)), none⟩, 2, false, [], none⟩, ⟨⟨(some 6), (.load false 1 (.t 5)), none⟩, 3, false, [], none⟩, ⟨⟨(some 7), (.fadd 1 (.t 1)), none⟩, 4, false, [], none⟩, ⟨⟨(some 8), (.load false 1 (.t 7)), none⟩, 5, false, [], none⟩, ⟨⟨(some 9), (.bin .lss .bad (.t 6) (.t 8)), none⟩, 6, false, [], none⟩, ⟨⟨(some 10), (.mv (.t 9)), none⟩, 7, false, [], none⟩, ⟨⟨(some 11), (.fadd 0 (.t 1)), (some (10, false))⟩, 8, false, [], none⟩, ⟨⟨(some 12), (.load false 1 (.t 11)), (some (10, false))⟩, 9, false, [], none⟩, ⟨⟨(some 13), (.nilchk (.t 12)), (some (10, false))⟩, 10, false, [], none⟩, ⟨⟨(some 14), (.load false 1 (.t 13)), (some (10, false))⟩, 11, false, [], none⟩, ⟨⟨(some 15), (.fadd 2 (.t 1)), (some (10, false))⟩, 12, false, [], none⟩, ⟨⟨(some 16), (.load false 1 (.t 15)), (some (10, false))⟩, 13, false, [], none⟩, ⟨⟨(some 17), (.bin .gtr .bad (.t 14) (.t 16)), (some (10, false))⟩, 14, false, [], none⟩, ⟨⟨(some 18), (.pick (.t 10) (.c (.d (.b true))) (.t 17)), none⟩, 15, false, [], none⟩, ⟨⟨(some 2), (.mv (.t 18)), none⟩, 16, false, [], none⟩])
 .ret)), false⟩
/-- slices.ContainsFunc[[]int,int] -/
def a171 : AFn := ⟨9, [.tmp 4],
 (.seq (.reg [⟨(some 4), (.mv (.c (.d (.b false)))), none⟩])
 (.seq (.reg [⟨(some 5), (.mv (.t 0)), none⟩, ⟨(some 6), (.mv (.t 1)), none⟩, ⟨(some 7), (.callf 214 [(.t 5), (.t 6)]), none⟩, ⟨(some 8), (.bin .geq .bad (.t 7) (.c (.d (.i .i64 0)))), none⟩, ⟨(some 4), (.mv (.t 8)), none⟩])
 .ret)), false⟩
/-- foreman/ident.id -/
def a172 : AFn := ⟨10, [.tmp 2],
 (.seq (.reg [⟨(some 1), (.box 96 (.t 0)), none⟩, ⟨(some 2), (.mv (.c (.d (.s [])))), none⟩])
 (.seq (.reg [⟨(some 4), (.load true 2 (.t 1)), none⟩, ⟨(some 5), (.callf 173 [(.t 4)]), none⟩, ⟨(some 3), (.mv (.t 5)), none⟩])
 (.seq (.seq (.reg [⟨(some 6), (.mv (.t 3)), none⟩, ⟨(some 7), (.len 0 (.t 6)), none⟩, ⟨(some 8), (.bin .gtr .bad (.t 7) (.c (.d (.i .i64 400)))), none⟩])
 (.cond (.t 8)
 (.seq (.reg [⟨(some 2), (.mv (.c (.d (.s [])))), none⟩])
 .ret)
 .skip))
 (.seq (.reg [⟨(some 9), (.mv (.t 3)), none⟩, ⟨(some 2), (.mv (.t 9)), none⟩])
 .ret)))), false⟩
/-- foreman/ident.Show -/
def a173 : AFn := ⟨35, [.tmp 2],
 (.seq (.reg [⟨(some 1), (.box 96 (.t 0)), none⟩, ⟨(some 2), (.mv (.c (.d (.s [])))), none⟩])
 (.seq (.seq (.reg [⟨(some 6), (.load true 2 (.t 1)), none⟩, ⟨(some 7), (.callf 215 [(.t 6)]), none⟩, ⟨(some 8), (.un .not (.t 7)), none⟩])
 (.cond (.t 8)
 (.seq (.reg [⟨(some 2), (.mv (.c (.d (.s [])))), none⟩])
 .ret)
 .skip))
 (.seq (.reg [⟨(some 3), (.alloc 263 [(.d .nilp), .nilsl]), none⟩])
 (.seq (.reg [⟨(some 9), (.fadd 0 (.t 1)), none⟩, ⟨(some 10), (.load false 1 (.t 9)), none⟩, ⟨(some 11), (.callf 160 [(.t 10)]), none⟩, ⟨(some 12), (.callf 216 [(.t 3), (.t 11)]), none⟩])
 (.seq (.seq (.reg [⟨(some 13), (.fadd 1 (.t 1)), none⟩, ⟨(some 14), (.load false 1 (.t 13)), none⟩, ⟨(some 15), (.len 1 (.t 14)), none⟩, ⟨(some 16), (.mv (.c (.d (.i .i64 0)))), none⟩])
 (.blk 0 (.loop (.seq (.reg [⟨(some 17), (.bin .lss .bad (.t 16) (.t 15)), none⟩])
 (.seq (.cond (.t 17)
 .skip
 (.exit 0))
 (.seq (.blk 1 (.seq (.reg [⟨(some 18), (.iaS 2 (.t 14) (.t 16)), none⟩, ⟨(some 19), (.load true 2 (.t 18)), none⟩, ⟨(some 5), (.alloc 147 [(.d (.s [])), (.d (.i .i64 0))]), none⟩, ⟨none, (.store 2 (.t 5) (.t 19)), none⟩])
 (.seq (.reg [⟨(some 20), (.fadd 0 (.t 5)), none⟩, ⟨(some 21), (.load false 1 (.t 20)), none⟩, ⟨(some 22), (.bin .add .bad (.c (.d (.s [47]))) (.t 21)), none⟩, ⟨(some 23), (.callf 216 [(.t 3), (.t 22)]), none⟩])
 (.seq (.reg [⟨(some 24), (.fadd 1 (.t 5)), none⟩, ⟨(some 25), (.load false 1 (.t 24)), none⟩, ⟨(some 26), (.bin .neq .bad (.t 25) (.c (.d (.i .i64 (-1))))), none⟩])
 (.cond (.t 26)
 (.reg [⟨(some 27), (.fadd 1 (.t 5)), none⟩, ⟨(some 28), (.load false 1 (.t 27)), none⟩, ⟨(some 29), (.callf 160 [(.t 28)]), none⟩, ⟨(some 30), (.bin .add .bad (.c (.d (.s [91]))) (.t 29)), none⟩, ⟨(some 31), (.bin .add .bad (.t 30) (.c (.d (.s [93])))), none⟩, ⟨(some 32), (.callf 216 [(.t 3), (.t 31)]), none⟩])
 .skip)))))
 (.reg [⟨(some 33), (.bin .add .bad (.t 16) (.c (.d (.i .i64 1)))), none⟩, ⟨(some 16), (.mv (.t 33)), none⟩])))))))
 (.seq (.reg [⟨(some 34), (.callf 217 [(.t 3)]), none⟩, ⟨(some 2), (.mv (.t 34)), none⟩])
 .ret)))))), false⟩
/-- foreman/scope.place -/
def a174 : AFn := ⟨13, [.tmp 4],
 (.seq (.reg [⟨(some 4), (.mv (.c (.d (.b false)))), none⟩])
 (.seq (.reg [⟨(some 5), (.mv (.t 1)), none⟩, ⟨(some 6), (.bin .geq .bad (.t 5) (.c (.d (.i .i64 0)))), none⟩, ⟨(some 7), (.mv (.t 6)), none⟩, ⟨(some 8), (.mv (.t 1)), (some (7, true))⟩, ⟨(some 9), (.mv (.t 0)), (some (7, true))⟩, ⟨(some 10), (.len 1 (.t 9)), (some (7, true))⟩, ⟨(some 11), (.bin .lss .bad (.t 8) (.t 10)), (some (7, true))⟩, ⟨(some 12), (.pick (.t 7) (.t 11) (.c (.d (.b false)))), none⟩, ⟨(some 4), (.mv (.t 12)), none⟩])
 .ret)), false⟩
/-- foreman/scope.up -/
def a175 : AFn := ⟨6, [.tmp 4],
 (.seq (.reg [⟨(some 2), (.box 34 (.t 0)), none⟩, ⟨(some 3), (.box 3 (.t 1)), none⟩, ⟨(some 4), (.mv (.c (.d .nilf))), none⟩])
 (.seq (.reg [⟨(some 5), (.mkfn (.func 218) [] [(.t 2), (.t 3)]), none⟩, ⟨(some 4), (.mv (.t 5)), none⟩])
 .ret)), false⟩
/-- (*foreman/graph.Graph).Grow -/
def a177 : AFn := ⟨30, [.tmp 4],
 (.seq (.reg [⟨(some 4), (.mv (.c (.d (.i .i64 0)))), none⟩])
 (.seq (.blk 0 (.seq (.reg [⟨(some 6), (.mv (.t 0)), none⟩, ⟨(some 7), (.callf 98 [(.t 6)]), none⟩, ⟨(some 5), (.mv (.t 7)), none⟩])
 (.cond (.t 5)
 (.seq (.reg [⟨(some 4), (.mv (.c (.d (.i .i64 1)))), none⟩])
 .ret)
 (.seq (.reg [⟨(some 9), (.mv (.t 1)), none⟩, ⟨(some 10), (.bin .lss .bad (.t 9) (.c (.d (.i .i64 0)))), none⟩, ⟨(some 11), (.mv (.t 10)), none⟩, ⟨(some 12), (.mv (.t 1)), (some (11, false))⟩, ⟨(some 13), (.mv (.t 0)), (some (11, false))⟩, ⟨(some 14), (.nilchk (.t 13)), (some (11, false))⟩, ⟨(some 15), (.fadd 1 (.t 14)), (some (11, false))⟩, ⟨(some 16), (.load false 1 (.t 15)), (some (11, false))⟩, ⟨(some 17), (.len 1 (.t 16)), (some (11, false))⟩, ⟨(some 18), (.bin .sub .bad (.c (.d (.i .i64 10000))) (.t 17)), (some (11, false))⟩, ⟨(some 19), (.bin .gtr .bad (.t 12) (.t 18)), (some (11, false))⟩, ⟨(some 20), (.pick (.t 11) (.c (.d (.b true))) (.t 19)), none⟩, ⟨(some 8), (.mv (.t 20)), none⟩])
 (.cond (.t 8)
 (.seq (.reg [⟨(some 4), (.mv (.c (.d (.i .i64 2)))), none⟩])
 .ret)
 .skip)))))
 (.seq (.reg [⟨(some 21), (.mv (.t 0)), none⟩, ⟨(some 22), (.mv (.t 0)), none⟩, ⟨(some 23), (.nilchk (.t 22)), none⟩, ⟨(some 24), (.fadd 1 (.t 23)), none⟩, ⟨(some 25), (.load false 1 (.t 24)), none⟩, ⟨(some 26), (.mv (.t 1)), none⟩, ⟨(some 27), (.appz 158 2 48 [.nilsl, .nilsl] (.t 25) (.t 26)), none⟩, ⟨(some 28), (.nilchk (.t 21)), none⟩, ⟨(some 29), (.fadd 1 (.t 28)), none⟩, ⟨none, (.store 1 (.t 29) (.t 27)), none⟩])
 (.seq (.reg [⟨(some 4), (.mv (.c (.d (.i .i64 0)))), none⟩])
 .ret)))), false⟩
/-- (*foreman/graph.Graph).Len -/
def a178 : AFn := ⟨10, [.tmp 2],
 (.seq (.reg [⟨(some 2), (.mv (.c (.d (.i .i64 0)))), none⟩])
 (.seq (.seq (.reg [⟨(some 3), (.mv (.t 0)), none⟩, ⟨(some 4), (.callf 98 [(.t 3)]), none⟩])
 (.cond (.t 4)
 (.seq (.reg [⟨(some 2), (.mv (.c (.d (.i .i64 0)))), none⟩])
 .ret)
 .skip))
 (.seq (.reg [⟨(some 5), (.mv (.t 0)), none⟩, ⟨(some 6), (.nilchk (.t 5)), none⟩, ⟨(some 7), (.fadd 1 (.t 6)), none⟩, ⟨(some 8), (.load false 1 (.t 7)), none⟩, ⟨(some 9), (.len 1 (.t 8)), none⟩, ⟨(some 2), (.mv (.t 9)), none⟩])
 .ret))), false⟩
/-- foreman/bundle.Fits -/
def a179 : AFn := ⟨21, [.tmp 6],
 (.seq (.reg [⟨(some 6), (.mv (.c (.d (.i .i64 0)))), none⟩])
 (.seq (.seq (.reg [⟨(some 9), (.mv (.t 0)), none⟩, ⟨(some 10), (.callf 29 [(.t 9)]), none⟩, ⟨(some 11), (.bin .eql .ptr (.t 10) (.c (.d .nilp))), none⟩])
 (.cond (.t 11)
 (.seq (.reg [⟨(some 6), (.mv (.c (.d (.i .i64 1)))), none⟩])
 .ret)
 .skip))
 (.seq (.reg [⟨(some 13), (.mv (.t 0)), none⟩, ⟨(some 14), (.callf 29 [(.t 13)]), none⟩, ⟨(some 15), (.mv (.t 1)), none⟩, ⟨(some 16), (.mv (.t 2)), none⟩, ⟨(some 17), (.callf 180 [(.t 14), (.t 15), (.t 16)]), none⟩, ⟨(some 12), (.mv (.t 17)), none⟩, ⟨(some 18), (.extr (.t 12) 0), none⟩, ⟨(some 19), (.extr (.t 12) 1), none⟩, ⟨(some 7), (.mv (.t 18)), none⟩, ⟨(some 8), (.mv (.t 19)), none⟩])
 (.seq (.reg [⟨(some 20), (.mv (.t 8)), none⟩, ⟨(some 6), (.mv (.t 20)), none⟩])
 .ret)))), false⟩
/-- foreman/bundle.grow -/
def a180 : AFn := ⟨42, [.tmp 6, .tmp 7],
 (.seq (.reg [⟨(some 6), (.mv (.c (.d (.i .i64 0)))), none⟩, ⟨(some 7), (.mv (.c (.d (.i .i64 0)))), none⟩])
 (.seq (.seq (.reg [⟨(some 13), (.mv (.t 0)), none⟩, ⟨(some 14), (.mv (.t 1)), none⟩, ⟨(some 15), (.callf 131 [(.t 13), (.t 14)]), none⟩, ⟨(some 8), (.mv (.t 15)), none⟩])
 (.seq (.reg [⟨(some 16), (.mv (.t 8)), none⟩, ⟨(some 17), (.bin .neq .bad (.t 16) (.c (.d (.i .i64 0)))), none⟩])
 (.cond (.t 17)
 (.seq (.reg [⟨(some 18), (.mv (.t 8)), none⟩, ⟨(some 6), (.mv (.c (.d (.i .i64 0)))), none⟩, ⟨(some 7), (.mv (.t 18)), none⟩])
 .ret)
 .skip)))
 (.seq (.seq (.reg [⟨(some 19), (.mv (.t 2)), none⟩, ⟨(some 20), (.len 1 (.t 19)), none⟩, ⟨(some 21), (.mv (.c (.d (.i .i64 0)))), none⟩])
 (.blk 0 (.loop (.seq (.reg [⟨(some 22), (.bin .lss .bad (.t 21) (.t 20)), none⟩])
 (.seq (.cond (.t 22)
 .skip
 (.exit 0))
 (.seq (.blk 1 (.seq (.reg [⟨(some 23), (.mv (.t 21)), none⟩, ⟨(some 24), (.iaS 2 (.t 19) (.t 21)), none⟩, ⟨(some 25), (.load true 2 (.t 24)), none⟩, ⟨(some 10), (.alloc 233 [(.d (.i .i64 0)), (.d (.i .i64 0))]), none⟩, ⟨(some 9), (.mv (.t 23)), none⟩, ⟨none, (.store 2 (.t 10) (.t 25)), none⟩])
 (.seq (.reg [⟨(some 27), (.mv (.t 0)), none⟩, ⟨(some 28), (.fadd 0 (.t 10)), none⟩, ⟨(some 29), (.load false 1 (.t 28)), none⟩, ⟨(some 30), (.fadd 1 (.t 10)), none⟩, ⟨(some 31), (.load false 1 (.t 30)), none⟩, ⟨(some 32), (.callf 219 [(.t 27), (.t 29), (.t 31)]), none⟩, ⟨(some 26), (.mv (.t 32)), none⟩, ⟨(some 33), (.extr (.t 26) 0), none⟩, ⟨(some 34), (.extr (.t 26) 1), none⟩, ⟨(some 11), (.mv (.t 33)), none⟩, ⟨(some 12), (.mv (.t 34)), none⟩])
 (.seq (.reg [⟨(some 35), (.mv (.t 12)), none⟩, ⟨(some 36), (.bin .neq .bad (.t 35) (.c (.d (.i .i64 0)))), none⟩])
 (.cond (.t 36)
 (.seq (.reg [⟨(some 37), (.mv (.t 9)), none⟩, ⟨(some 38), (.mv (.t 12)), none⟩, ⟨(some 6), (.mv (.t 37)), none⟩, ⟨(some 7), (.mv (.t 38)), none⟩])
 .ret)
 .skip)))))
 (.reg [⟨(some 39), (.bin .add .bad (.t 21) (.c (.d (.i .i64 1)))), none⟩, ⟨(some 21), (.mv (.t 39)), none⟩])))))))
 (.seq (.reg [⟨(some 40), (.mv (.t 2)), none⟩, ⟨(some 41), (.len 1 (.t 40)), none⟩, ⟨(some 6), (.mv (.t 41)), none⟩, ⟨(some 7), (.mv (.c (.d (.i .i64 0)))), none⟩])
 .ret)))), false⟩
/-- (*foreman/order.Order).Place -/
def a181 : AFn := ⟨17, [.tmp 4, .tmp 5],
 (.seq (.reg [⟨(some 4), (.mv (.c (.d (.i .i64 0)))), none⟩, ⟨(some 5), (.mv (.c (.d (.b false)))), none⟩])
 (.seq (.seq (.reg [⟨(some 6), (.mv (.t 0)), none⟩, ⟨(some 7), (.mv (.t 1)), none⟩, ⟨(some 8), (.callf 220 [(.t 6), (.t 7)]), none⟩, ⟨(some 9), (.un .not (.t 8)), none⟩])
 (.cond (.t 9)
 (.seq (.reg [⟨(some 4), (.mv (.c (.d (.i .i64 0)))), none⟩, ⟨(some 5), (.mv (.c (.d (.b false)))), none⟩])
 .ret)
 .skip))
 (.seq (.reg [⟨(some 10), (.mv (.t 0)), none⟩, ⟨(some 11), (.nilchk (.t 10)), none⟩, ⟨(some 12), (.fadd 1 (.t 11)), none⟩, ⟨(some 13), (.load false 1 (.t 12)), none⟩, ⟨(some 14), (.mv (.t 1)), none⟩, ⟨(some 15), (.iaS 1 (.t 13) (.t 14)), none⟩, ⟨(some 16), (.load false 1 (.t 15)), none⟩, ⟨(some 4), (.mv (.t 16)), none⟩, ⟨(some 5), (.mv (.c (.d (.b true)))), none⟩])
 .ret))), false⟩
/-- foreman/flow.start -/
def a182 : AFn := ⟨5, [.tmp 2],
 (.seq (.reg [⟨(some 2), (.mv (.c (.d (.i .i64 0)))), none⟩])
 (.seq (.reg [⟨(some 3), (.mv (.t 0)), none⟩, ⟨(some 4), (.bin .mul .bad (.c (.d (.i .i64 2))) (.t 3)), none⟩, ⟨(some 2), (.mv (.t 4)), none⟩])
 .ret)), false⟩
/-- foreman/flow.end -/
def a183 : AFn := ⟨6, [.tmp 2],
 (.seq (.reg [⟨(some 2), (.mv (.c (.d (.i .i64 0)))), none⟩])
 (.seq (.reg [⟨(some 3), (.mv (.t 0)), none⟩, ⟨(some 4), (.bin .mul .bad (.c (.d (.i .i64 2))) (.t 3)), none⟩, ⟨(some 5), (.bin .add .bad (.t 4) (.c (.d (.i .i64 1)))), none⟩, ⟨(some 2), (.mv (.t 5)), none⟩])
 .ret)), false⟩
/-- strings.Trim -/
def a184 : AFn := ⟨43, [.tmp 4],
 (.seq (.reg [⟨(some 4), (.mv (.c (.d (.s [])))), none⟩])
 (.seq (.seq (.reg [⟨(some 7), (.mv (.t 0)), none⟩, ⟨(some 8), (.bin .eql .bad (.t 7) (.c (.d (.s [])))), none⟩, ⟨(some 9), (.mv (.t 8)), none⟩, ⟨(some 10), (.mv (.t 1)), (some (9, false))⟩, ⟨(some 11), (.bin .eql .bad (.t 10) (.c (.d (.s [])))), (some (9, false))⟩, ⟨(some 12), (.pick (.t 9) (.c (.d (.b true))) (.t 11)), none⟩])
 (.cond (.t 12)
 (.seq (.reg [⟨(some 13), (.mv (.t 0)), none⟩, ⟨(some 4), (.mv (.t 13)), none⟩])
 .ret)
 .skip))
 (.seq (.seq (.reg [⟨(some 14), (.mv (.t 1)), none⟩, ⟨(some 15), (.len 0 (.t 14)), none⟩, ⟨(some 16), (.bin .eql .bad (.t 15) (.c (.d (.i .i64 1)))), none⟩, ⟨(some 17), (.mv (.t 16)), none⟩, ⟨(some 18), (.mv (.t 1)), (some (17, true))⟩, ⟨(some 19), (.ixS (.t 18) (.c (.d (.i .i64 0)))), (some (17, true))⟩, ⟨(some 20), (.bin .lss .bad (.t 19) (.c (.d (.i .u8 128)))), (some (17, true))⟩, ⟨(some 21), (.pick (.t 17) (.t 20) (.c (.d (.b false)))), none⟩])
 (.cond (.t 21)
 (.seq (.dreg 0 [⟨⟨(some 22), (.mv (.t 0)), none⟩, 0, false, [], none⟩, ⟨⟨(some 23), (.mv (.t 1)), none⟩, 1, false, [], none⟩, ⟨⟨(some 24), (.ixS (.t 23) (.c (.d (.i .i64 0)))), none⟩, 2, false, [], none⟩, ⟨⟨(some 25), (.callf 222 [(.t 22), (.t 24)]), none⟩, 3, true, [], none⟩, ⟨⟨(some 26), (.mv (.t 1)), none⟩, 4, false, [], none⟩, ⟨⟨(some 27), (.ixS (.t 26) (.c (.d (.i .i64 0)))), none⟩, 5, false, [], none⟩, ⟨⟨(some 28), (.callf 221 [(.t 25), (.t 27)]), none⟩, 6, true, [], none⟩, ⟨⟨(some 4), (.mv (.t 28)), none⟩, 7, false, [6, 3], none⟩])
 .ret)
 .skip))
 (.seq (.seq (.reg [⟨(some 30), (.mv (.t 1)), none⟩, ⟨(some 31), (.callf 223 [(.t 30)]), none⟩, ⟨(some 29), (.mv (.t 31)), none⟩, ⟨(some 32), (.extr (.t 29) 0), none⟩, ⟨(some 33), (.extr (.t 29) 1), none⟩, ⟨(some 5), (.alloc 268 [(.d (.b false)), (.d (.b false)), (.d (.b false)), (.d (.b false)), (.d (.b false)), (.d (.b false)), (.d (.b false)), (.d (.b false)), (.d (.b false)), (.d (.b false)), (.d (.b false)), (.d (.b false)), (.d (.b false)), (.d (.b false)), (.d (.b false)), (.d (.b false)), (.d (.b false)), (.d (.b false)), (.d (.b false)), (.d (.b false)), (.d (.b false)), (.d (.b false)), (.d (.b false)), (.d (.b false)), (.d (.b false)), (.d (.b false)), (.d (.b false)), (.d (.b false)), (.d (.b false)), (.d (.b false)), (.d (.b false)), (.d (.b false)), (.d (.b false)), (.d (.b false)), (.d (.b false)), (.d (.b false)), (.d (.b false)), (.d (.b false)), (.d (.b false)), (.d (.b false)), (.d (.b false)), (.d (.b false)), (.d (.b false)), (.d (.b false)), (.d (.b false)), (.d (.b false)), (.d (.b false)), (.d (.b false)), (.d (.b false)), (.d (.b false)), (.d (.b false)), (.d (.b false)), (.d (.b false)), (.d (.b false)), (.d (.b false)), (.d (.b false)), (.d (.b false)), (.d (.b false)), (.d (.b false)), (.d (.b false)), (.d (.b false)), (.d (.b false)), (.d (.b false)), (.d (.b false)), (.d (.b false)), (.d (.b false)), (.d (.b false)), (.d (.b false)), (.d (.b false)), (.d (.b false)), (.d (.b false)), (.d (.b false)), (.d (.b false)), (.d (.b false)), (.d (.b false)), (.d (.b false)), (.d (.b false)), (.d (.b false)), (.d (.b false)), (.d (.b false)), (.d (.b false)), (.d (.b false)), (.d (.b false)), (.d (.b false)), (.d (.b false)), (.d (.b false)), (.d (.b false)), (.d (.b false)), (.d (.b false)), (.d (.b false)), (.d (.b false)), (.d (.b false)), (.d (.b false)), (.d (.b false)), (.d (.b false)), (.d (.b false)), (.d (.b false)), (.d (.b false)), (.d (.b false)), (.d (.b false)), (.d (.b false)), (.d (.b false)), (.d (.b false)), (.d (.b false)), (.d (.b false)), (.d (.b false)), (.d (.b false)), (.d (.b false)), (.d (.b false)), (.d (.b false)), (.d (.b false)), (.d (.b false)), (.d (.b false)), (.d (.b false)), (.d (.b false)), (.d (.b false)), (.d (.b false)), (.d (.b false)), (.d (.b false)), (.d (.b false)), (.d (.b false)), (.d (.b false)), (.d (.b false)), (.d (.b false)), (.d (.b false)), (.d (.b false)), (.d (.b false)), (.d (.b false)), (.d (.b false)), (.d (.b false)), (.d (.b false)), (.d (.b false)), (.d (.b false)), (.d (.b false)), (.d (.b false)), (.d (.b false)), (.d (.b false)), (.d (.b false)), (.d (.b false)), (.d (.b false)), (.d (.b false)), (.d (.b false)), (.d (.b false)), (.d (.b false)), (.d (.b false)), (.d (.b false)), (.d (.b false)), (.d (.b false)), (.d (.b false)), (.d (.b false)), (.d (.b false)), (.d (.b false)), (.d (.b false)), (.d (.b false)), (.d (.b false)), (.d (.b false)), (.d (.b false)), (.d (.b false)), (.d (.b false)), (.d (.b false)), (.d (.b false)), (.d (.b false)), (.d (.b false)), (.d (.b false)), (.d (.b false)), (.d (.b false)), (.d (.b false)), (.d (.b false)), (.d (.b false)), (.d (.b false)), (.d (.b false)), (.d (.b false)), (.d (.b false)), (.d (.b false)), (.d (.b false)), (.d (.b false)), (.d (.b false)), (.d (.b false)), (.d (.b false)), (.d (.b false)), (.d (.b false)), (.d (.b false)), (.d (.b false)), (.d (.b false)), (.d (.b false)), (.d (.b false)), (.d (.b false)), (.d (.b false)), (.d (.b false)), (.d (.b false)), (.d (.b false)), (.d (.b false)), (.d (.b false)), (.d (.b false)), (.d (.b false)), (.d (.b false)), (.d (.b false)), (.d (.b false)), (.d (.b false)), (.d (.b false)), (.d (.b false)), (.d (.b false)), (.d (.b false)), (.d (.b false)), (.d (.b false)), (.d (.b false)), (.d (.b false)), (.d (.b false)), (.d (.b false)), (.d (.b false)), (.d (.b false)), (.d (.b false)), (.d (.b false)), (.d (.b false)), (.d (.b false)), (.d (.b false)), (.d (.b false)), (.d (.b false)), (.d (.b false)), (.d (.b false)), (.d (.b false)), (.d (.b false)), (.d (.b false)), (.d (.b false)), (.d (.b false)), (.d (.b false)), (.d (.b false)), (.d (.b false)), (.d (.b false)), (.d (.b false)), (.d (.b false)), (.d (.b false)), (.d (.b false)), (.d (.b false)), (.d (.b false)), (.d (.b false)), (.d (.b false)), (.d (.b false)), (.d (.b false)), (.d (.b false)), (.d (.b false)), (.d (.b false)), (.d (.b false)), (.d (.b false)), (.d (.b false)), (.d (.b false)), (.d (.b false)), (.d (.b false)), (.d (.b false)), (.d (.b false)), (.d (.b false)), (.d (.b false)), (.d (.b false)), (.d (.b false)), (.d (.b false)), (.d (.b false))]), none⟩, ⟨none, (.store 256 (.t 5) (.t 32)), none⟩, ⟨(some 6), (.mv (.t 33)), none⟩])
 (.seq (.reg [⟨(some 34), (.mv (.t 6)), none⟩])
 (.cond (.t 34)
 (.seq (.reg [⟨(some 35), (.mv (.t 0)), none⟩, ⟨(some 36), (.callf 225 [(.t 35), (.t 5)]), none⟩, ⟨(some 37), (.callf 224 [(.t 36), (.t 5)]), none⟩, ⟨(some 4), (.mv (.t 37)), none⟩])
 .ret)
 .skip)))
 (.seq (.reg [⟨(some 38), (.mv (.t 0)), none⟩, ⟨(some 39), (.mv (.t 1)), none⟩, ⟨(some 40), (.callf 227 [(.t 38), (.t 39)]), none⟩, ⟨(some 41), (.mv (.t 1)), none⟩, ⟨(some 42), (.callf 226 [(.t 40), (.t 41)]), none⟩, ⟨(some 4), (.mv (.t 42)), none⟩])
 .ret))))), false⟩
/-- slices.IndexFunc[[]string,string] -/
def a185 : AFn := ⟨19, [.tmp 4],
 (.seq (.reg [⟨(some 4), (.mv (.c (.d (.i .i64 0)))), none⟩])
 (.seq (.seq (.reg [⟨(some 6), (.mv (.t 0)), none⟩, ⟨(some 7), (.len 1 (.t 6)), none⟩, ⟨(some 8), (.mv (.c (.d (.i .i64 0)))), none⟩])
 (.blk 0 (.loop (.seq (.reg [⟨(some 9), (.bin .lss .bad (.t 8) (.t 7)), none⟩])
 (.seq (.cond (.t 9)
 .skip
 (.exit 0))
 (.seq (.blk 1 (.seq (.reg [⟨(some 10), (.mv (.t 8)), none⟩, ⟨(some 5), (.mv (.t 10)), none⟩])
 (.seq (.reg [⟨(some 11), (.mv (.t 1)), none⟩, ⟨(some 12), (.mv (.t 0)), none⟩, ⟨(some 13), (.mv (.t 5)), none⟩, ⟨(some 14), (.iaS 1 (.t 12) (.t 13)), none⟩, ⟨(some 15), (.load false 1 (.t 14)), none⟩, ⟨(some 16), (.callv (.t 11) [(.t 15)]), none⟩])
 (.cond (.t 16)
 (.seq (.reg [⟨(some 17), (.mv (.t 5)), none⟩, ⟨(some 4), (.mv (.t 17)), none⟩])
 .ret)
 .skip))))
 (.reg [⟨(some 18), (.bin .add .bad (.t 8) (.c (.d (.i .i64 1)))), none⟩, ⟨(some 8), (.mv (.t 18)), none⟩])))))))
 (.seq (.reg [⟨(some 4), (.mv (.c (.d (.i .i64 (-1))))), none⟩])
 .ret))), false⟩
/-- strings.indexFunc -/
def a186 : AFn := ⟨21, [.tmp 6],
 (.seq (.reg [⟨(some 6), (.mv (.c (.d (.i .i64 0)))), none⟩])
 (.seq (.seq (.reg [⟨(some 9), (.mv (.t 0)), none⟩, ⟨(some 10), (.rng true (.t 9)), none⟩])
 (.blk 0 (.loop (.seq (.reg [⟨(some 11), (.nxt true (.t 10)), none⟩, ⟨(some 12), (.extr (.t 11) 0), none⟩])
 (.seq (.cond (.t 12)
 .skip
 (.exit 0))
 (.blk 1 (.seq (.reg [⟨(some 13), (.extr (.t 11) 1), none⟩, ⟨(some 14), (.extr (.t 11) 2), none⟩, ⟨(some 7), (.mv (.t 13)), none⟩, ⟨(some 8), (.mv (.t 14)), none⟩])
 (.seq (.reg [⟨(some 15), (.mv (.t 1)), none⟩, ⟨(some 16), (.mv (.t 8)), none⟩, ⟨(some 17), (.callv (.t 15) [(.t 16)]), none⟩, ⟨(some 18), (.mv (.t 2)), none⟩, ⟨(some 19), (.bin .eql .bool (.t 17) (.t 18)), none⟩])
 (.cond (.t 19)
 (.seq (.reg [⟨(some 20), (.mv (.t 7)), none⟩, ⟨(some 6), (.mv (.t 20)), none⟩])
 .ret)
 .skip)))))))))
 (.seq (.reg [⟨(some 6), (.mv (.c (.d (.i .i64 (-1))))), none⟩])
 .ret))), false⟩
/-- slices.IndexFunc[[]foreman/api.Value,foreman/api.Value] -/
def a187 : AFn := ⟨19, [.tmp 4],
 (.seq (.reg [⟨(some 4), (.mv (.c (.d (.i .i64 0)))), none⟩])
 (.seq (.seq (.reg [⟨(some 6), (.mv (.t 0)), none⟩, ⟨(some 7), (.len 1 (.t 6)), none⟩, ⟨(some 8), (.mv (.c (.d (.i .i64 0)))), none⟩])
 (.blk 0 (.loop (.seq (.reg [⟨(some 9), (.bin .lss .bad (.t 8) (.t 7)), none⟩])
 (.seq (.cond (.t 9)
 .skip
 (.exit 0))
 (.seq (.blk 1 (.seq (.reg [⟨(some 10), (.mv (.t 8)), none⟩, ⟨(some 5), (.mv (.t 10)), none⟩])
 (.seq (.reg [⟨(some 11), (.mv (.t 1)), none⟩, ⟨(some 12), (.mv (.t 0)), none⟩, ⟨(some 13), (.mv (.t 5)), none⟩, ⟨(some 14), (.iaS 4 (.t 12) (.t 13)), none⟩, ⟨(some 15), (.load true 4 (.t 14)), none⟩, ⟨(some 16), (.callv (.t 11) [(.t 15)]), none⟩])
 (.cond (.t 16)
 (.seq (.reg [⟨(some 17), (.mv (.t 5)), none⟩, ⟨(some 4), (.mv (.t 17)), none⟩])
 .ret)
 .skip))))
 (.reg [⟨(some 18), (.bin .add .bad (.t 8) (.c (.d (.i .i64 1)))), none⟩, ⟨(some 8), (.mv (.t 18)), none⟩])))))))
 (.seq (.reg [⟨(some 4), (.mv (.c (.d (.i .i64 (-1))))), none⟩])
 .ret))), false⟩
/-- (foreman/check.asked).all$1 -/
def a188 : AFn := ⟨6, [.tmp 1],
 (.seq (.reg [⟨(some 1), (.mv (.c (.d (.b false)))), none⟩])
 (.seq (.reg [⟨(some 2), (.fadd 8 (.t 0)), none⟩, ⟨(some 3), (.load false 1 (.t 2)), none⟩, ⟨(some 4), (.callf 35 [(.t 3)]), none⟩, ⟨(some 5), (.un .not (.t 4)), none⟩, ⟨(some 1), (.mv (.t 5)), none⟩])
 .ret)), false⟩
/-- (foreman/check.asked).wide -/
def a189 : AFn := ⟨15, [.tmp 2],
 (.seq (.reg [⟨(some 1), (.box 196 (.t 0)), none⟩, ⟨(some 2), (.mv (.c (.d (.b false)))), none⟩])
 (.seq (.reg [⟨(some 3), (.fadd 8 (.t 1)), none⟩, ⟨(some 4), (.load false 1 (.t 3)), none⟩, ⟨(some 5), (.len 1 (.t 4)), none⟩, ⟨(some 6), (.fadd 0 (.t 1)), none⟩, ⟨(some 7), (.fadd 2 (.t 6)), none⟩, ⟨(some 8), (.load false 1 (.t 7)), none⟩, ⟨(some 9), (.bin .gtr .bad (.t 5) (.t 8)), none⟩, ⟨(some 10), (.mv (.t 9)), none⟩, ⟨(some 11), (.load true 9 (.t 1)), (some (10, false))⟩, ⟨(some 12), (.mkfn (.func 229) [] [(.t 1)]), (some (10, false))⟩, ⟨(some 13), (.callf 228 [(.t 11), (.t 12)]), (some (10, false))⟩, ⟨(some 14), (.pick (.t 10) (.c (.d (.b true))) (.t 13)), none⟩, ⟨(some 2), (.mv (.t 14)), none⟩])
 .ret)), false⟩
/-- (foreman/check.asked).twice -/
def a190 : AFn := ⟨8, [.tmp 2],
 (.seq (.reg [⟨(some 1), (.box 196 (.t 0)), none⟩, ⟨(some 2), (.mv (.c (.d (.b false)))), none⟩])
 (.seq (.reg [⟨(some 4), .mkmap, none⟩, ⟨(some 3), (.alloc 169 [(.d .nilm)]), none⟩, ⟨none, (.store 1 (.t 3) (.t 4)), none⟩])
 (.seq (.reg [⟨(some 5), (.load true 9 (.t 1)), none⟩, ⟨(some 6), (.mkfn (.func 231) [] [(.t 3)]), none⟩, ⟨(some 7), (.callf 228 [(.t 5), (.t 6)]), none⟩, ⟨(some 2), (.mv (.t 7)), none⟩])
 .ret))), false⟩
end Go.Proofs.YtmaeffhiephpfaaGreatDoor
