/- The program's functions as the abstract machine's code: what it is compiled to, by program; that it is the compiler's is shown in the text on the environment. -/
import Derived.Test.YtaadeimkgmccaaaGreatDoorZA
namespace Go.Proofs.YtaadeimkgmccaaaGreatDoor
noncomputable section
open Go Go.Abs Go.Abs.T
/-- foreman/foremanlaw26.EngineNone -/
def a3 : AFn := ⟨182, [.tmp 4],
 (.seq (.reg [o 2 (.box 27 (t 0)), o 4 (.mv (.c (.d (.b false))))])
 (.seq (.seq (.reg [o 26 (.load true 9 (t 2)), o 27 (.bsl 27 9 1 [(.d (.i .u8 0)), (.d (.s [])), (.d (.i .i64 0)), (.d (.i .u8 0)), (.d (.i .i64 0)), (.d (.s [])), .nilsl, .nilsl, (.d (.i .i64 0))] [(0, 9, (t 26))]), o 28 (.callf 4 [(t 27), (k 1)]), o 29 (.un .not (t 28))])
 (.cond (t 29)
 (.seq (.reg [o 30 (.callf 5 []), m 4 30])
 .ret)
 .skip))
 (.seq (.seq (.reg [o 31 (.build [(.d .nilp), (.d .nilp)] []), o 32 (.box 35 (t 31)), o 33 (.bsl 31 1 2 [(.d .nilp)] [(0, 1, (.c (.d .nilp))), (1, 1, (t 32))]), o 34 (.len 1 (t 33)), o 35 (.mv (k 0))])
 (.blk 0 (.loop (.seq (.reg [o 36 (b .lss (t 35) (t 34))])
 (.seq (.cond (t 36)
 .skip
 (.exit 0))
 (.seq (.blk 1 (.seq (.reg [o 37 (.iaS 1 (t 33) (t 35)), l 38 37, m 6 38])
 (.seq (.reg [m 40 6, o 41 (.load true 9 (t 2)), o 42 (.callf 6 [(t 40), (t 41)]), m 39 42, o 43 (.extr (t 39) 0), o 44 (.extr (t 39) 1), m 7 43, m 8 44])
 (.seq (.reg [m 45 6, o 46 (.load true 9 (t 2)), o 47 (.callf 8 [(t 45), (t 46)]), o 48 (.build [(.d (.i .i64 0)), (.d (.i .i64 0)), (.d (.i .i64 0)), .nilsl, (.d (.i .u8 0))] [(0, 1, (k 1))]), o 49 (.callf 7 [(t 47), (t 48)]), o 50 (.un .not (t 49)), m 51 50, mg 52 6 51 false, og 53 (.callf 9 [(t 52)]) 51 false, og 54 (b .neq (t 53) (k 1)) 51 false, o 55 (.pick (t 51) (.c (.d (.b true))) (t 54)), m 56 55, mg 57 8 56 false, og 58 (b .neq (t 57) (k 1)) 56 false, o 59 (.pick (t 56) (.c (.d (.b true))) (t 58)), m 60 59, mg 61 6 60 false, og 62 (.callf 10 [(t 61)]) 60 false, og 63 (.fld 6 false 1 (t 62)) 60 false, og 64 (.len 1 (t 63)) 60 false, og 65 (b .neq (t 64) (k 0)) 60 false, o 66 (.pick (t 60) (.c (.d (.b true))) (t 65)), m 67 66, mg 68 6 67 false, og 69 (.callf 11 [(t 68)]) 67 false, og 70 (b .neq (t 69) (.c (.d (.i .u64 0)))) 67 false, o 71 (.pick (t 67) (.c (.d (.b true))) (t 70)), m 72 71, mg 73 6 72 false, og 74 (.callf 12 [(t 73)]) 72 false, og 75 (b .neq (t 74) (k 0)) 72 false, o 76 (.pick (t 72) (.c (.d (.b true))) (t 75)), m 77 76, mg 78 6 77 false, og 79 (.callf 13 [(t 78)]) 77 false, og 80 (b .neq (t 79) (k 0)) 77 false, o 81 (.pick (t 77) (.c (.d (.b true))) (t 80))])
 (.cond (t 81)
 (.seq (.reg [o 4 (.mv (.c (.d (.b false))))])
 .ret)
 .skip)))))
 (.reg [o 82 (b .add (t 35) (k 1)), m 35 82])))))))
 (.seq (.reg [o 84 (.callf 14 [(k 500)]), m 83 84, o 85 (.extr (t 83) 0), o 86 (.extr (t 83) 1), m 9 85, m 10 86])
 (.seq (.seq (.reg [m 87 10, o 88 (b .neq (t 87) (k 0))])
 (.cond (t 88)
 (.seq (.reg [o 4 (.mv (.c (.d (.b false))))])
 .ret)
 .skip))
 (.seq (.reg [m 89 9, o 90 (.callf 15 [(t 89), (k 0), (k 0)])])
 (.seq (.reg [m 91 9, o 92 (.callf 16 [(t 91)])])
 (.seq (.seq (.reg [o 93 (.build [(.d (.b false)), (.d (.i .i64 0)), .nilsl, (.d (.i .i64 0)), .nilsl, (.d (.i .i64 0)), (.d (.i .u8 0)), (.d (.i .u8 0)), (.d (.i .u8 0)), (.d (.i .u8 0)), (.d (.i .u8 0)), (.d (.i .u8 0)), (.d (.i .u8 0)), (.d (.i .u8 0)), (.d (.i .u8 0)), (.d (.i .u8 0)), (.d (.i .u8 0)), (.d (.i .u8 0)), (.d (.i .u8 0)), (.d (.i .u8 0)), (.d (.i .u8 0)), (.d (.i .u8 0)), (.d (.i .u8 0)), (.d (.i .u8 0)), (.d (.i .u8 0)), (.d (.i .u8 0)), (.d (.i .u8 0)), (.d (.i .u8 0)), (.d (.i .u8 0)), (.d (.i .u8 0)), (.d (.i .u8 0)), (.d (.i .u8 0)), (.d (.i .u8 0)), (.d (.i .u8 0)), (.d (.i .u8 0)), (.d (.i .u8 0)), (.d (.i .u8 0)), (.d (.i .u8 0)), (.d (.i .u8 0)), (.d (.i .u8 0)), (.d (.i .u8 0)), (.d (.i .u8 0)), (.d (.i .u8 0)), (.d (.i .u8 0)), (.d (.i .u8 0)), (.d (.i .u8 0)), (.d (.i .u8 0)), (.d (.i .u8 0)), (.d (.i .u8 0)), (.d (.i .u8 0)), (.d (.i .u8 0)), (.d (.i .u8 0)), (.d (.i .u8 0)), (.d (.i .u8 0)), (.d (.i .u8 0)), (.d (.i .u8 0)), (.d (.i .u8 0)), (.d (.i .u8 0)), (.d (.i .u8 0)), (.d (.i .u8 0)), (.d (.i .u8 0)), (.d (.i .u8 0)), (.d (.i .u8 0)), (.d (.i .u8 0)), (.d (.i .u8 0)), (.d (.i .u8 0)), (.d (.i .u8 0)), (.d (.i .u8 0)), (.d (.i .u8 0)), (.d (.i .u8 0)), (.d (.b false)), (.d (.i .u8 0)), (.d (.i .u8 0)), (.d (.i .u8 0)), (.d (.i .u8 0)), (.d (.i .u8 0)), (.d (.i .u8 0)), (.d (.i .u8 0)), (.d (.i .u8 0)), (.d (.i .u8 0)), (.d (.i .u8 0)), (.d (.i .u8 0)), (.d (.i .u8 0)), (.d (.i .u8 0)), (.d (.i .u8 0)), (.d (.i .u8 0)), (.d (.i .u8 0)), (.d (.i .u8 0)), (.d (.i .u8 0)), (.d (.i .u8 0)), (.d (.i .u8 0)), (.d (.i .u8 0)), (.d (.i .u8 0)), (.d (.i .u8 0)), (.d (.i .u8 0)), (.d (.i .u8 0)), (.d (.i .u8 0)), (.d (.i .u8 0)), (.d (.i .u8 0)), (.d (.i .u8 0)), (.d (.i .u8 0)), (.d (.i .u8 0)), (.d (.i .u8 0)), (.d (.i .u8 0)), (.d (.i .u8 0)), (.d (.i .u8 0)), (.d (.i .u8 0)), (.d (.i .u8 0)), (.d (.i .u8 0)), (.d (.i .u8 0)), (.d (.i .u8 0)), (.d (.i .u8 0)), (.d (.i .u8 0)), (.d (.i .u8 0)), (.d (.i .u8 0)), (.d (.i .u8 0)), (.d (.i .u8 0)), (.d (.i .u8 0)), (.d (.i .u8 0)), (.d (.i .u8 0)), (.d (.i .u8 0)), (.d (.i .u8 0)), (.d (.i .u8 0)), (.d (.i .u8 0)), (.d (.i .u8 0)), (.d (.i .u8 0)), (.d (.i .u8 0)), (.d (.i .u8 0)), (.d (.i .u8 0)), (.d (.i .u8 0)), (.d (.i .u8 0)), (.d (.i .u8 0)), (.d (.i .u8 0)), (.d (.i .u8 0)), (.d (.i .u8 0)), (.d (.b false)), (.d .nilp), (.d (.b false))] []), o 94 (.box 68 (t 93)), m 95 9, o 96 (.bsl 54 1 3 [(.d .nilp)] [(0, 1, (.c (.d .nilp))), (1, 1, (t 94)), (2, 1, (t 95))]), o 97 (.len 1 (t 96)), o 98 (.mv (k 0))])
 (.blk 2 (.loop (.seq (.reg [o 99 (b .lss (t 98) (t 97))])
 (.seq (.cond (t 99)
 .skip
 (.exit 2))
 (.seq (.blk 3 (.seq (.reg [m 100 98, o 101 (.iaS 1 (t 96) (t 98)), l 102 101, m 11 100, m 12 102])
 (.seq (.reg [o 13 (.mv (k 1))])
 (.seq (.seq (.reg [m 103 11, o 104 (b .eql (t 103) (k 2))])
 (.cond (t 104)
 (.reg [o 13 (.mv (k 3))])
 .skip))
 (.seq (.reg [m 106 12, o 107 (.callf 18 []), o 108 (.callf 17 [(t 106), (t 107)]), m 105 108, o 109 (.extr (t 105) 0), o 110 (.extr (t 105) 1), m 14 109, m 15 110])
 (.seq (.reg [m 112 12, o 113 (.callf 19 [(t 112)]), m 111 113, o 114 (.extr (t 111) 0), o 115 (.extr (t 111) 1), m 16 114, m 17 115])
 (.seq (.reg [m 116 15, m 117 13, o 118 (b .neq (t 116) (t 117)), m 119 118, mg 120 17 119 false, mg 121 13 119 false, og 122 (b .neq (t 120) (t 121)) 119 false, o 123 (.pick (t 119) (.c (.d (.b true))) (t 122)), m 124 123, mg 125 14 124 false, og 126 (.bin .neq .ptr (t 125) (.c (.d .nilp))) 124 false, o 127 (.pick (t 124) (.c (.d (.b true))) (t 126)), m 128 127, mg 129 16 128 false, og 130 (.bin .neq .ptr (t 129) (.c (.d .nilp))) 128 false, o 131 (.pick (t 128) (.c (.d (.b true))) (t 130))])
 (.cond (t 131)
 (.seq (.reg [o 4 (.mv (.c (.d (.b false))))])
 .ret)
 .skip))))))))
 (.reg [o 132 (b .add (t 98) (k 1)), m 98 132])))))))
 (.seq (.reg [m 134 1, o 135 (b .rem (t 134) (.c (.d (.i .u8 30)))), o 136 (.cvi .i64 (t 135)), o 137 (.callf 14 [(t 136)]), m 133 137, o 138 (.extr (t 133) 0), o 139 (.extr (t 133) 1), m 18 138, m 19 139])
 (.seq (.reg [m 141 18, o 142 (.callf 18 []), o 143 (.callf 17 [(t 141), (t 142)]), m 140 143, o 144 (.extr (t 140) 0), o 145 (.extr (t 140) 1), m 20 144, m 21 145])
 (.seq (.reg [m 147 18, o 148 (.callf 19 [(t 147)]), m 146 148, o 149 (.extr (t 146) 0), o 150 (.extr (t 146) 1), m 22 149, m 23 150])
 (.seq (.reg [m 152 18, o 153 (.build [(.d (.i .i64 0)), (.d (.i .i64 0)), (.d (.i .i64 0)), (.d (.i .i64 0)), (.d (.i .i64 0))] [(2, 1, (k (-1)))]), o 154 (.callf 17 [(t 152), (t 153)]), m 151 154, o 155 (.extr (t 151) 0), o 156 (.extr (t 151) 1), m 24 155, m 25 156])
 (.seq (.reg [m 157 19, o 158 (b .eql (t 157) (k 0)), m 159 158, mg 160 21 159 true, og 161 (b .eql (t 160) (k 5)) 159 true, o 162 (.pick (t 159) (t 161) (.c (.d (.b false)))), m 163 162, mg 164 20 163 true, og 165 (.bin .eql .ptr (t 164) (.c (.d .nilp))) 163 true, o 166 (.pick (t 163) (t 165) (.c (.d (.b false)))), m 167 166, mg 168 23 167 true, og 169 (b .eql (t 168) (k 30)) 167 true, o 170 (.pick (t 167) (t 169) (.c (.d (.b false)))), m 171 170, mg 172 22 171 true, og 173 (.bin .eql .ptr (t 172) (.c (.d .nilp))) 171 true, o 174 (.pick (t 171) (t 173) (.c (.d (.b false)))), m 175 174, mg 176 25 175 true, og 177 (b .eql (t 176) (k 2)) 175 true, o 178 (.pick (t 175) (t 177) (.c (.d (.b false)))), m 179 178, og 180 (.callf 5 []) 179 true, o 181 (.pick (t 179) (t 180) (.c (.d (.b false)))), m 4 181])
 .ret))))))))))))), false⟩
/-- foreman/foremanlow.FewOps -/
def a4 : AFn := ⟨60, [.tmp 4],
 (.seq (.reg [⟨(some 4), (.mv (.c (.d (.b false)))), none⟩])
 (.seq (.seq (.reg [⟨(some 9), (.mv (.t 0)), none⟩, ⟨(some 10), (.len 1 (.t 9)), none⟩, ⟨(some 11), (.mv (.c (.d (.i .i64 0)))), none⟩])
 (.blk 0 (.loop (.seq (.reg [⟨(some 12), (.bin .lss .bad (.t 11) (.t 10)), none⟩])
 (.seq (.cond (.t 12)
 .skip
 (.exit 0))
 (.seq (.blk 1 (.seq (.reg [⟨(some 13), (.iaS 9 (.t 9) (.t 11)), none⟩, ⟨(some 14), (.load true 9 (.t 13)), none⟩, ⟨(some 6), (.alloc 27 [(.d (.i .u8 0)), (.d (.s [])), (.d (.i .i64 0)), (.d (.i .u8 0)), (.d (.i .i64 0)), (.d (.s [])), .nilsl, .nilsl, (.d (.i .i64 0))]), none⟩, ⟨none, (.store 9 (.t 6) (.t 14)), none⟩])
 (.seq (.seq (.reg [⟨(some 15), (.fadd 7 (.t 6)), none⟩, ⟨(some 16), (.load false 1 (.t 15)), none⟩, ⟨(some 17), (.len 1 (.t 16)), none⟩, ⟨(some 18), (.bin .gtr .bad (.t 17) (.c (.d (.i .i64 45)))), none⟩, ⟨(some 19), (.mv (.t 18)), none⟩, ⟨(some 20), (.fadd 1 (.t 6)), (some (19, false))⟩, ⟨(some 21), (.load false 1 (.t 20)), (some (19, false))⟩, ⟨(some 22), (.len 0 (.t 21)), (some (19, false))⟩, ⟨(some 23), (.bin .gtr .bad (.t 22) (.c (.d (.i .i64 1000)))), (some (19, false))⟩, ⟨(some 24), (.pick (.t 19) (.c (.d (.b true))) (.t 23)), none⟩, ⟨(some 25), (.mv (.t 24)), none⟩, ⟨(some 26), (.fadd 3 (.t 6)), (some (25, false))⟩, ⟨(some 27), (.load true 4 (.t 26)), (some (25, false))⟩, ⟨(some 28), (.callf 20 [(.t 27)]), (some (25, false))⟩, ⟨(some 29), (.un .not (.t 28)), (some (25, false))⟩, ⟨(some 30), (.pick (.t 25) (.c (.d (.b true))) (.t 29)), none⟩])
 (.cond (.t 30)
 (.seq (.reg [⟨(some 4), (.mv (.c (.d (.b false)))), none⟩])
 .ret)
 .skip))
 (.seq (.reg [⟨(some 31), (.fadd 7 (.t 6)), none⟩, ⟨(some 32), (.load false 1 (.t 31)), none⟩, ⟨(some 33), (.len 1 (.t 32)), none⟩, ⟨(some 34), (.mv (.c (.d (.i .i64 0)))), none⟩])
 (.blk 2 (.loop (.seq (.reg [⟨(some 35), (.bin .lss .bad (.t 34) (.t 33)), none⟩])
 (.seq (.cond (.t 35)
 .skip
 (.exit 2))
 (.seq (.blk 3 (.seq (.reg [⟨(some 36), (.iaS 6 (.t 32) (.t 34)), none⟩, ⟨(some 37), (.load true 6 (.t 36)), none⟩, ⟨(some 8), (.alloc 78 [(.d (.s [])), (.d (.i .u8 0)), .nilsl, (.d (.s [])), (.d (.i .i64 0)), (.d (.i .i64 0))]), none⟩, ⟨none, (.store 6 (.t 8) (.t 37)), none⟩])
 (.seq (.reg [⟨(some 38), (.fadd 2 (.t 8)), none⟩, ⟨(some 39), (.load false 1 (.t 38)), none⟩, ⟨(some 40), (.len 1 (.t 39)), none⟩, ⟨(some 41), (.bin .gtr .bad (.t 40) (.c (.d (.i .i64 25)))), none⟩, ⟨(some 42), (.mv (.t 41)), none⟩, ⟨(some 43), (.fadd 0 (.t 8)), (some (42, false))⟩, ⟨(some 44), (.load false 1 (.t 43)), (some (42, false))⟩, ⟨(some 45), (.len 0 (.t 44)), (some (42, false))⟩, ⟨(some 46), (.bin .gtr .bad (.t 45) (.c (.d (.i .i64 100)))), (some (42, false))⟩, ⟨(some 47), (.pick (.t 42) (.c (.d (.b true))) (.t 46)), none⟩, ⟨(some 48), (.mv (.t 47)), none⟩, ⟨(some 49), (.fadd 3 (.t 8)), (some (48, false))⟩, ⟨(some 50), (.load false 1 (.t 49)), (some (48, false))⟩, ⟨(some 51), (.len 0 (.t 50)), (some (48, false))⟩, ⟨(some 52), (.bin .gtr .bad (.t 51) (.c (.d (.i .i64 100)))), (some (48, false))⟩, ⟨(some 53), (.pick (.t 48) (.c (.d (.b true))) (.t 52)), none⟩])
 (.cond (.t 53)
 (.seq (.reg [⟨(some 4), (.mv (.c (.d (.b false)))), none⟩])
 .ret)
 .skip))))
 (.reg [⟨(some 54), (.bin .add .bad (.t 34) (.c (.d (.i .i64 1)))), none⟩, ⟨(some 34), (.mv (.t 54)), none⟩]))))))))))
 (.reg [⟨(some 55), (.bin .add .bad (.t 11) (.c (.d (.i .i64 1)))), none⟩, ⟨(some 11), (.mv (.t 55)), none⟩])))))))
 (.seq (.reg [⟨(some 56), (.mv (.t 0)), none⟩, ⟨(some 57), (.len 1 (.t 56)), none⟩, ⟨(some 58), (.mv (.t 1)), none⟩, ⟨(some 59), (.bin .leq .bad (.t 57) (.t 58)), none⟩, ⟨(some 4), (.mv (.t 59)), none⟩])
 .ret))), false⟩
/-- foreman/foremanlaw26.awake -/
def a5 : AFn := ⟨108, [.tmp 0],
 (.seq (.reg [o 0 (.mv (.c (.d (.b false))))])
 (.seq (.reg [o 12 (.callf 18 []), o 13 (.callf 21 [(k 400), (t 12)]), m 11 13, o 14 (.extr (t 11) 0), o 15 (.extr (t 11) 1), o 16 (.extr (t 11) 2), m 1 14, m 2 15, m 3 16])
 (.seq (.seq (.reg [m 17 3, o 18 (b .neq (t 17) (k 0)), m 19 18, mg 20 2 19 false, og 21 (.build [(.d (.s [])), (.d (.i .u8 0)), .nilsl, (.d (.s [])), (.d (.i .i64 0)), (.d (.i .i64 0))] [(0, 1, (.c (.d (.s [97]))))]) 19 false, og 22 (.bsl 78 6 1 [(.d (.s [])), (.d (.i .u8 0)), .nilsl, (.d (.s [])), (.d (.i .i64 0)), (.d (.i .i64 0))] [(0, 6, (t 21))]) 19 false, og 23 (.build [(.d (.i .u8 0)), (.d (.s [])), (.d (.i .i64 0)), (.d (.i .u8 0)), (.d (.i .i64 0)), (.d (.s [])), .nilsl, .nilsl, (.d (.i .i64 0))] [(0, 1, (.c (.d (.i .u8 1)))), (7, 1, (t 22)), (8, 1, (k 3))]) 19 false, og 24 (.callf 8 [(t 20), (t 23)]) 19 false, og 25 (.fld 0 false 1 (t 24)) 19 false, og 26 (b .neq (t 25) (k 0)) 19 false, o 27 (.pick (t 19) (.c (.d (.b true))) (t 26)), m 28 27, mg 29 2 28 false, og 30 (.build [(.d (.i .u8 0)), (.d (.s [])), (.d (.i .i64 0)), (.d (.i .u8 0)), (.d (.i .i64 0)), (.d (.s [])), .nilsl, .nilsl, (.d (.i .i64 0))] [(0, 1, (.c (.d (.i .u8 2)))), (1, 1, (.c (.d (.s [48, 47, 97]))))]) 28 false, og 31 (.callf 8 [(t 29), (t 30)]) 28 false, og 32 (.fld 2 false 1 (t 31)) 28 false, og 33 (b .neq (t 32) (k 1)) 28 false, o 34 (.pick (t 28) (.c (.d (.b true))) (t 33))])
 (.cond (t 34)
 (.seq (.reg [o 0 (.mv (.c (.d (.b false))))])
 .ret)
 .skip))
 (.seq (.reg [m 36 1, o 37 (.callf 19 [(t 36)]), m 35 37, o 38 (.extr (t 35) 0), o 39 (.extr (t 35) 1), m 4 38, m 5 39])
 (.seq (.seq (.reg [m 40 5, o 41 (b .neq (t 40) (k 0)), m 42 41, mg 43 4 42 false, og 44 (.callf 11 [(t 43)]) 42 false, og 45 (b .neq (t 44) (.c (.d (.i .u64 2)))) 42 false, o 46 (.pick (t 42) (.c (.d (.b true))) (t 45)), m 47 46, mg 48 4 47 false, og 49 (.callf 10 [(t 48)]) 47 false, og 50 (.fld 6 false 1 (t 49)) 47 false, og 51 (.iaS 16 (t 50) (k 0)) 47 false, og 52 (.fadd 9 (t 51)) 47 false, lg 53 52 47 false, og 54 (b .neq (t 53) (.c (.d (.i .u8 1)))) 47 false, o 55 (.pick (t 47) (.c (.d (.b true))) (t 54)), m 56 55, mg 57 4 56 false, og 58 (.callf 10 [(t 57)]) 56 false, og 59 (.fld 6 false 1 (t 58)) 56 false, og 60 (.iaS 16 (t 59) (k 0)) 56 false, og 61 (.fadd 10 (t 60)) 56 false, lg 62 61 56 false, og 63 (b .neq (t 62) (k 0)) 56 false, o 64 (.pick (t 56) (.c (.d (.b true))) (t 63)), m 65 64, mg 66 4 65 false, og 67 (.build [(.d (.i .u8 0)), (.d (.s [])), (.d (.i .i64 0)), (.d (.i .u8 0)), (.d (.i .i64 0)), (.d (.s [])), .nilsl, .nilsl, (.d (.i .i64 0))] [(0, 1, (.c (.d (.i .u8 2)))), (1, 1, (.c (.d (.s [48, 47, 97]))))]) 65 false, og 68 (.callf 8 [(t 66), (t 67)]) 65 false, og 69 (.fld 2 false 1 (t 68)) 65 false, og 70 (b .neq (t 69) (k 2)) 65 false, o 71 (.pick (t 65) (.c (.d (.b true))) (t 70))])
 (.cond (t 71)
 (.seq (.reg [o 0 (.mv (.c (.d (.b false))))])
 .ret)
 .skip))
 (.seq (.reg [o 73 (.callf 14 [(k 50)]), m 72 73, o 74 (.extr (t 72) 0), o 75 (.extr (t 72) 1), m 6 74, m 7 75])
 (.seq (.reg [m 77 6, o 78 (.callf 19 [(t 77)]), m 76 78, o 79 (.extr (t 76) 0), o 80 (.extr (t 76) 1), m 8 79, m 9 80])
 (.seq (.reg [m 81 4, o 82 (.callf 13 [(t 81)]), m 10 82])
 (.seq (.reg [m 83 4, o 84 (.callf 9 [(t 83)]), o 85 (b .eql (t 84) (k 0)), m 86 85, mg 87 4 86 true, og 88 (.callf 13 [(t 87)]) 86 true, mg 89 10 86 true, og 90 (b .lss (t 88) (t 89)) 86 true, o 91 (.pick (t 86) (t 90) (.c (.d (.b false)))), m 92 91, mg 93 4 92 true, og 94 (.callf 13 [(t 93)]) 92 true, mg 95 4 92 true, og 96 (.callf 12 [(t 95)]) 92 true, og 97 (b .add (t 94) (t 96)) 92 true, og 98 (b .eql (t 97) (k 400)) 92 true, o 99 (.pick (t 92) (t 98) (.c (.d (.b false)))), m 100 99, mg 101 7 100 true, og 102 (b .eql (t 101) (k 0)) 100 true, o 103 (.pick (t 100) (t 102) (.c (.d (.b false)))), m 104 103, mg 105 9 104 true, og 106 (b .eql (t 105) (k 50)) 104 true, o 107 (.pick (t 104) (t 106) (.c (.d (.b false)))), m 0 107])
 .ret))))))))), false⟩
/-- (*foreman/engine.Engine).Need -/
def a6 : AFn := ⟨23, [.tmp 4, .tmp 5],
 (.seq (.reg [o 3 (.box 27 (t 1)), o 4 (.mv (k 0)), o 5 (.mv (k 0))])
 (.seq (.seq (.reg [m 8 0, o 9 (.callf 22 [(t 8)])])
 (.cond (t 9)
 (.seq (.reg [o 4 (.mv (k 0)), o 5 (.mv (k 1))])
 .ret)
 .skip))
 (.seq (.reg [m 11 0, o 12 (.load true 9 (t 3)), o 13 (.callf 23 [(t 11), (t 12)]), m 10 13, o 14 (.extr (t 10) 0), o 15 (.extr (t 10) 1), m 6 14, m 7 15])
 (.seq (.seq (.reg [m 16 7, o 17 (b .neq (t 16) (k 0))])
 (.cond (t 17)
 (.seq (.reg [m 18 7, o 4 (.mv (k 0)), m 5 18])
 .ret)
 .skip))
 (.seq (.reg [m 19 6, o 20 (.callf 24 [(t 19)]), o 21 (.extr (t 20) 0), o 22 (.extr (t 20) 1), m 4 21, m 5 22])
 .ret))))), false⟩
/-- foreman/foremanlow.SameReply -/
def a7 : AFn := ⟨60, [.tmp 4],
 (.seq (.reg [o 2 (.box 42 (t 0)), o 3 (.box 42 (t 1)), o 4 (.mv (.c (.d (.b false))))])
 (.seq (.seq (.reg [o 6 (.fadd 0 (t 2)), l 7 6, o 8 (.fadd 0 (t 3)), l 9 8, o 10 (b .neq (t 7) (t 9)), m 11 10, og 12 (.fadd 1 (t 2)) 11 false, lg 13 12 11 false, og 14 (.fadd 1 (t 3)) 11 false, lg 15 14 11 false, og 16 (b .neq (t 13) (t 15)) 11 false, o 17 (.pick (t 11) (.c (.d (.b true))) (t 16)), m 18 17, og 19 (.fadd 2 (t 2)) 18 false, lg 20 19 18 false, og 21 (.fadd 2 (t 3)) 18 false, lg 22 21 18 false, og 23 (b .neq (t 20) (t 22)) 18 false, o 24 (.pick (t 18) (.c (.d (.b true))) (t 23)), m 25 24, og 26 (.fadd 4 (t 2)) 25 false, lg 27 26 25 false, og 28 (.fadd 4 (t 3)) 25 false, lg 29 28 25 false, og 30 (b .neq (t 27) (t 29)) 25 false, o 31 (.pick (t 25) (.c (.d (.b true))) (t 30)), m 32 31, og 33 (.fadd 3 (t 2)) 32 false, lg 34 33 32 false, og 35 (.len 1 (t 34)) 32 false, og 36 (.fadd 3 (t 3)) 32 false, lg 37 36 32 false, og 38 (.len 1 (t 37)) 32 false, og 39 (b .neq (t 35) (t 38)) 32 false, o 40 (.pick (t 32) (.c (.d (.b true))) (t 39))])
 (.cond (t 40)
 (.seq (.reg [o 4 (.mv (.c (.d (.b false))))])
 .ret)
 .skip))
 (.seq (.seq (.reg [o 41 (.fadd 3 (t 2)), l 42 41, o 43 (.len 1 (t 42)), o 44 (.mv (k 0))])
 (.blk 0 (.loop (.seq (.reg [o 45 (b .lss (t 44) (t 43))])
 (.seq (.cond (t 45)
 .skip
 (.exit 0))
 (.seq (.blk 1 (.seq (.reg [m 46 44, m 5 46])
 (.seq (.dreg 0 [⟨o 47 (.fadd 3 (t 2)), 0, false, [], none⟩, ⟨l 48 47, 1, false, [], none⟩, ⟨m 49 5, 2, false, [], none⟩, ⟨o 50 (.iaS 4 (t 48) (t 49)), 3, false, [], none⟩, ⟨o 51 (.load true 4 (t 50)), 4, false, [], none⟩, ⟨o 52 (.fadd 3 (t 3)), 5, false, [], none⟩, ⟨l 53 52, 6, false, [], none⟩, ⟨m 54 5, 7, false, [], none⟩, ⟨o 55 (.iaS 4 (t 53) (t 54)), 8, false, [], none⟩, ⟨o 56 (.load true 4 (t 55)), 9, false, [], none⟩, ⟨o 57 (.callf 25 [(t 51), (t 56)]), 10, true, [], none⟩, ⟨o 58 (.un .not (t 57)), 11, false, [10], none⟩])
 (.cond (t 58)
 (.seq (.reg [o 4 (.mv (.c (.d (.b false))))])
 .ret)
 .skip))))
 (.reg [o 59 (b .add (t 44) (k 1)), m 44 59])))))))
 (.seq (.reg [o 4 (.mv (.c (.d (.b true))))])
 .ret)))), false⟩
/-- (*foreman/engine.Engine).Do -/
def a8 : AFn := ⟨49, [.cell 4 true 5],
 (.seq (.reg [o 3 (.box 27 (t 1)), o 4 (.alloc 42 [(.d (.i .i64 0)), (.d (.i .i64 0)), (.d (.i .i64 0)), .nilsl, (.d (.i .u8 0))])])
 (.seq (.seq (.reg [m 9 0, o 10 (.callf 22 [(t 9)])])
 (.cond (t 10)
 (.seq (.reg [o 11 (.build [(.d (.i .i64 0)), (.d (.i .i64 0)), (.d (.i .i64 0)), .nilsl, (.d (.i .u8 0))] [(0, 1, (k 1))]), u (.store 5 (t 4) (t 11))])
 .ret)
 .skip))
 (.seq (.reg [m 12 0, o 13 (.nilchk (t 12)), o 14 (.fadd 1 (t 13)), l 15 14, o 16 (.callf 26 [(t 15)]), m 5 16])
 (.seq (.reg [m 17 5, o 18 (.load true 9 (t 3)), o 19 (.callf 27 [(t 17), (t 18)]), o 6 (.alloc 42 [(.d (.i .i64 0)), (.d (.i .i64 0)), (.d (.i .i64 0)), .nilsl, (.d (.i .u8 0))]), u (.store 5 (t 6) (t 19))])
 (.seq (.seq (.reg [o 20 (.load true 9 (t 3)), o 21 (.fadd 0 (t 6)), l 22 21, o 23 (.callf 28 [(t 20), (t 22)]), o 24 (.un .not (t 23))])
 (.cond (t 24)
 (.seq (.reg [o 25 (.load true 5 (t 6)), u (.store 5 (t 4) (t 25))])
 .ret)
 .skip))
 (.seq (.reg [m 27 0, o 28 (.load true 9 (t 3)), o 29 (.callf 23 [(t 27), (t 28)]), m 26 29, o 30 (.extr (t 26) 0), o 31 (.extr (t 26) 1), m 7 30, m 8 31])
 (.seq (.seq (.reg [m 32 8, o 33 (b .eql (t 32) (k 0))])
 (.cond (t 33)
 (.reg [m 34 0, o 35 (.nilchk (t 34)), o 36 (.fadd 0 (t 35)), l 37 36, m 38 7, o 39 (.callf 29 [(t 37), (t 38)]), m 8 39])
 .skip))
 (.seq (.seq (.reg [m 40 8, o 41 (b .neq (t 40) (k 0))])
 (.cond (t 41)
 (.seq (.reg [m 42 8, o 43 (.build [(.d (.i .i64 0)), (.d (.i .i64 0)), (.d (.i .i64 0)), .nilsl, (.d (.i .u8 0))] [(0, 1, (t 42))]), u (.store 5 (t 4) (t 43))])
 .ret)
 .skip))
 (.seq (.reg [m 44 0, m 45 5, o 46 (.nilchk (t 44)), o 47 (.fadd 1 (t 46)), u (.store 1 (t 47) (t 45))])
 (.seq (.reg [o 48 (.load true 5 (t 6)), u (.store 5 (t 4) (t 48))])
 .ret)))))))))), false⟩
/-- (*foreman/engine.Engine).Keep -/
def a9 : AFn := ⟨21, [.tmp 2],
 (.seq (.reg [o 2 (.mv (k 0))])
 (.seq (.seq (.reg [m 5 0, o 6 (.callf 22 [(t 5)])])
 (.cond (t 6)
 (.seq (.reg [o 2 (.mv (k 1))])
 .ret)
 .skip))
 (.seq (.reg [m 8 0, o 9 (.callf 30 [(t 8)]), m 7 9, o 10 (.extr (t 7) 0), o 11 (.extr (t 7) 1), m 3 10, m 4 11])
 (.seq (.seq (.reg [m 12 4, o 13 (b .neq (t 12) (k 0))])
 (.cond (t 13)
 (.seq (.reg [m 14 4, m 2 14])
 .ret)
 .skip))
 (.seq (.reg [m 15 0, o 16 (.nilchk (t 15)), o 17 (.fadd 0 (t 16)), l 18 17, m 19 3, o 20 (.callf 31 [(t 18), (t 19)]), m 2 20])
 .ret))))), false⟩
/-- (*foreman/engine.Engine).State -/
def a10 : AFn := ⟨11, [.cell 2 true 8],
 (.seq (.reg [o 2 (.alloc 49 [(.d (.i .i64 0)), (.d (.i .i64 0)), (.d (.i .i64 0)), (.d (.i .i64 0)), (.d (.i .i64 0)), (.d (.i .i64 0)), .nilsl, (.d (.i .i64 0))])])
 (.seq (.seq (.reg [m 3 0, o 4 (.callf 22 [(t 3)])])
 (.cond (t 4)
 (.seq (.reg [o 5 (.build [(.d (.i .i64 0)), (.d (.i .i64 0)), (.d (.i .i64 0)), (.d (.i .i64 0)), (.d (.i .i64 0)), (.d (.i .i64 0)), .nilsl, (.d (.i .i64 0))] []), u (.store 8 (t 2) (t 5))])
 .ret)
 .skip))
 (.seq (.reg [m 6 0, o 7 (.nilchk (t 6)), o 8 (.fadd 1 (t 7)), l 9 8, o 10 (.callf 32 [(t 9)]), u (.store 8 (t 2) (t 10))])
 .ret))), false⟩
/-- (*foreman/engine.Engine).Epoch -/
def a11 : AFn := ⟨11, [.tmp 2],
 (.seq (.reg [o 2 (.mv (.c (.d (.i .u64 0))))])
 (.seq (.seq (.reg [m 3 0, o 4 (.callf 22 [(t 3)])])
 (.cond (t 4)
 (.seq (.reg [o 2 (.mv (.c (.d (.i .u64 0))))])
 .ret)
 .skip))
 (.seq (.reg [m 5 0, o 6 (.nilchk (t 5)), o 7 (.fadd 0 (t 6)), l 8 7, o 9 (.callf 33 [(t 8)]), o 10 (.fld 1 false 1 (t 9)), m 2 10])
 .ret))), false⟩
/-- (*foreman/engine.Engine).Free -/
def a12 : AFn := ⟨10, [.tmp 2],
 (.seq (.reg [o 2 (.mv (k 0))])
 (.seq (.seq (.reg [m 3 0, o 4 (.callf 22 [(t 3)])])
 (.cond (t 4)
 (.seq (.reg [o 2 (.mv (k 0))])
 .ret)
 .skip))
 (.seq (.reg [m 5 0, o 6 (.nilchk (t 5)), o 7 (.fadd 0 (t 6)), l 8 7, o 9 (.callf 34 [(t 8)]), m 2 9])
 .ret))), false⟩
/-- (*foreman/engine.Engine).Size -/
def a13 : AFn := ⟨10, [.tmp 2],
 (.seq (.reg [o 2 (.mv (k 0))])
 (.seq (.seq (.reg [m 3 0, o 4 (.callf 22 [(t 3)])])
 (.cond (t 4)
 (.seq (.reg [o 2 (.mv (k 0))])
 .ret)
 .skip))
 (.seq (.reg [m 5 0, o 6 (.nilchk (t 5)), o 7 (.fadd 0 (t 6)), l 8 7, o 9 (.callf 35 [(t 8)]), m 2 9])
 .ret))), false⟩
/-- foreman/disk.New -/
def a14 : AFn := ⟨13, [.tmp 2, .tmp 3],
 (.seq (.reg [o 2 (.mv (.c (.d .nilp))), o 3 (.mv (k 0))])
 (.seq (.seq (.reg [m 4 0, o 5 (b .lss (t 4) (k 0)), m 6 5, mg 7 0 6 false, og 8 (b .gtr (t 7) (k 1048576)) 6 false, o 9 (.pick (t 6) (.c (.d (.b true))) (t 8))])
 (.cond (t 9)
 (.seq (.reg [o 2 (.mv (.c (.d .nilp))), o 3 (.mv (k 2))])
 .ret)
 .skip))
 (.seq (.reg [m 10 0, o 11 (.build [(.d (.b false)), (.d (.i .i64 0)), .nilsl, (.d (.i .i64 0)), .nilsl, (.d (.i .i64 0)), (.d (.i .u8 0)), (.d (.i .u8 0)), (.d (.i .u8 0)), (.d (.i .u8 0)), (.d (.i .u8 0)), (.d (.i .u8 0)), (.d (.i .u8 0)), (.d (.i .u8 0)), (.d (.i .u8 0)), (.d (.i .u8 0)), (.d (.i .u8 0)), (.d (.i .u8 0)), (.d (.i .u8 0)), (.d (.i .u8 0)), (.d (.i .u8 0)), (.d (.i .u8 0)), (.d (.i .u8 0)), (.d (.i .u8 0)), (.d (.i .u8 0)), (.d (.i .u8 0)), (.d (.i .u8 0)), (.d (.i .u8 0)), (.d (.i .u8 0)), (.d (.i .u8 0)), (.d (.i .u8 0)), (.d (.i .u8 0)), (.d (.i .u8 0)), (.d (.i .u8 0)), (.d (.i .u8 0)), (.d (.i .u8 0)), (.d (.i .u8 0)), (.d (.i .u8 0)), (.d (.i .u8 0)), (.d (.i .u8 0)), (.d (.i .u8 0)), (.d (.i .u8 0)), (.d (.i .u8 0)), (.d (.i .u8 0)), (.d (.i .u8 0)), (.d (.i .u8 0)), (.d (.i .u8 0)), (.d (.i .u8 0)), (.d (.i .u8 0)), (.d (.i .u8 0)), (.d (.i .u8 0)), (.d (.i .u8 0)), (.d (.i .u8 0)), (.d (.i .u8 0)), (.d (.i .u8 0)), (.d (.i .u8 0)), (.d (.i .u8 0)), (.d (.i .u8 0)), (.d (.i .u8 0)), (.d (.i .u8 0)), (.d (.i .u8 0)), (.d (.i .u8 0)), (.d (.i .u8 0)), (.d (.i .u8 0)), (.d (.i .u8 0)), (.d (.i .u8 0)), (.d (.i .u8 0)), (.d (.i .u8 0)), (.d (.i .u8 0)), (.d (.i .u8 0)), (.d (.b false)), (.d (.i .u8 0)), (.d (.i .u8 0)), (.d (.i .u8 0)), (.d (.i .u8 0)), (.d (.i .u8 0)), (.d (.i .u8 0)), (.d (.i .u8 0)), (.d (.i .u8 0)), (.d (.i .u8 0)), (.d (.i .u8 0)), (.d (.i .u8 0)), (.d (.i .u8 0)), (.d (.i .u8 0)), (.d (.i .u8 0)), (.d (.i .u8 0)), (.d (.i .u8 0)), (.d (.i .u8 0)), (.d (.i .u8 0)), (.d (.i .u8 0)), (.d (.i .u8 0)), (.d (.i .u8 0)), (.d (.i .u8 0)), (.d (.i .u8 0)), (.d (.i .u8 0)), (.d (.i .u8 0)), (.d (.i .u8 0)), (.d (.i .u8 0)), (.d (.i .u8 0)), (.d (.i .u8 0)), (.d (.i .u8 0)), (.d (.i .u8 0)), (.d (.i .u8 0)), (.d (.i .u8 0)), (.d (.i .u8 0)), (.d (.i .u8 0)), (.d (.i .u8 0)), (.d (.i .u8 0)), (.d (.i .u8 0)), (.d (.i .u8 0)), (.d (.i .u8 0)), (.d (.i .u8 0)), (.d (.i .u8 0)), (.d (.i .u8 0)), (.d (.i .u8 0)), (.d (.i .u8 0)), (.d (.i .u8 0)), (.d (.i .u8 0)), (.d (.i .u8 0)), (.d (.i .u8 0)), (.d (.i .u8 0)), (.d (.i .u8 0)), (.d (.i .u8 0)), (.d (.i .u8 0)), (.d (.i .u8 0)), (.d (.i .u8 0)), (.d (.i .u8 0)), (.d (.i .u8 0)), (.d (.i .u8 0)), (.d (.i .u8 0)), (.d (.i .u8 0)), (.d (.i .u8 0)), (.d (.i .u8 0)), (.d (.i .u8 0)), (.d (.i .u8 0)), (.d (.b false)), (.d .nilp), (.d (.b false))] [(0, 1, (.c (.d (.b true)))), (1, 1, (t 10))]), o 12 (.box 68 (t 11)), m 2 12, o 3 (.mv (k 0))])
 .ret))), true⟩
/-- (*foreman/disk.Disk).Fuse -/
def a15 : AFn := ⟨21, [],
 (.seq (.seq (.reg [m 6 0, o 7 (.callf 36 [(t 6)])])
 (.cond (t 7)
 .ret
 .skip))
 (.seq (.reg [m 8 0, o 9 (.nilchk (t 8)), o 10 (.fadd 136 (t 9)), u (.store 1 (t 10) (.c (.d .nilp)))])
 (.seq (.reg [m 11 1, o 12 (b .geq (t 11) (k 0))])
 (.cond (t 12)
 (.reg [m 13 0, m 14 1, m 15 2, o 16 (.mx [(t 15), (k 0)]), o 17 (.build [(.d (.i .i64 0)), (.d (.i .i64 0))] [(0, 1, (t 14)), (1, 1, (t 16))]), o 18 (.box 97 (t 17)), o 19 (.nilchk (t 13)), o 20 (.fadd 136 (t 19)), u (.store 1 (t 20) (t 18))])
 .skip)))), false⟩
/-- (*foreman/disk.Disk).SyncHead -/
def a16 : AFn := ⟨12, [.tmp 2],
 (.seq (.reg [o 1 (.box 54 (t 0)), o 2 (.mv (k 0))])
 (.seq (.seq (.reg [l 4 1, o 5 (.callf 37 [(t 4)]), m 3 5])
 (.seq (.reg [m 6 3, o 7 (b .neq (t 6) (k 0))])
 (.cond (t 7)
 (.seq (.reg [m 8 3, m 2 8])
 .ret)
 .skip)))
 (.seq (.reg [l 9 1, o 10 (.mkfn (.func 39) [] [(t 1)]), o 11 (.callf 38 [(t 9), (t 10), (.c (.d (.fn (.func 40) [] [])))]), m 2 11])
 .ret))), false⟩
/-- foreman/engine.New -/
def a17 : AFn := ⟨55, [.tmp 4, .tmp 5],
 (.seq (.reg [o 3 (.box 46 (t 1)), o 4 (.mv (.c (.d .nilp))), o 5 (.mv (k 0))])
 (.seq (.reg [o 15 (.load true 5 (t 3)), o 16 (.callf 41 [(t 15)]), m 14 16, o 17 (.extr (t 14) 0), o 18 (.extr (t 14) 1), m 6 17, m 7 18])
 (.seq (.seq (.reg [m 19 7, o 20 (b .neq (t 19) (k 0))])
 (.cond (t 20)
 (.seq (.reg [m 21 7, o 4 (.mv (.c (.d .nilp))), m 5 21])
 .ret)
 .skip))
 (.seq (.seq (.reg [m 22 0, o 23 (.callf 42 [(t 22)]), m 8 23])
 (.seq (.reg [m 24 8, o 25 (b .neq (t 24) (k 0))])
 (.cond (t 25)
 (.seq (.reg [m 26 8, o 4 (.mv (.c (.d .nilp))), m 5 26])
 .ret)
 .skip)))
 (.seq (.reg [m 28 0, o 29 (.callf 43 [(t 28)]), m 27 29, o 30 (.extr (t 27) 0), o 31 (.extr (t 27) 1), o 32 (.extr (t 27) 2), m 9 30, m 10 31, m 7 32])
 (.seq (.seq (.reg [m 33 7, o 34 (b .neq (t 33) (k 0))])
 (.cond (t 34)
 (.seq (.reg [m 35 7, o 4 (.mv (.c (.d .nilp))), m 5 35])
 .ret)
 .skip))
 (.seq (.reg [m 36 9, m 37 6, o 38 (.build [(.d .nilp), (.d .nilp)] [(0, 1, (t 36)), (1, 1, (t 37))]), o 39 (.box 35 (t 38)), m 11 39])
 (.seq (.reg [m 41 11, o 42 (.callf 30 [(t 41)]), m 40 42, o 43 (.extr (t 40) 0), o 44 (.extr (t 40) 1), m 12 43, m 7 44])
 (.seq (.seq (.reg [m 45 7, o 46 (b .neq (t 45) (k 0))])
 (.cond (t 46)
 (.seq (.reg [m 47 7, o 4 (.mv (.c (.d .nilp))), m 5 47])
 .ret)
 .skip))
 (.seq (.seq (.reg [m 48 9, m 49 12, o 50 (.callf 29 [(t 48), (t 49)]), m 13 50])
 (.seq (.reg [m 51 13, o 52 (b .neq (t 51) (k 0))])
 (.cond (t 52)
 (.seq (.reg [m 53 13, o 4 (.mv (.c (.d .nilp))), m 5 53])
 .ret)
 .skip)))
 (.seq (.reg [m 54 11, m 4 54, o 5 (.mv (k 0))])
 .ret))))))))))), true⟩
/-- foreman/foremanlaw26.Config -/
def a18 : AFn := ⟨2, [.cell 0 true 5],
 (.seq (.reg [o 0 (.alloc 46 [(.d (.i .i64 0)), (.d (.i .i64 0)), (.d (.i .i64 0)), (.d (.i .i64 0)), (.d (.i .i64 0))])])
 (.seq (.reg [o 1 (.build [(.d (.i .i64 0)), (.d (.i .i64 0)), (.d (.i .i64 0)), (.d (.i .i64 0)), (.d (.i .i64 0))] [(0, 1, (k 20)), (1, 1, (k 3)), (2, 1, (k 5)), (3, 1, (k 1)), (4, 1, (k 2))]), u (.store 5 (t 0) (t 1))])
 .ret)), false⟩
/-- foreman/engine.Open -/
def a19 : AFn := ⟨38, [.tmp 2, .tmp 3],
 (.seq (.reg [o 2 (.mv (.c (.d .nilp))), o 3 (.mv (k 0))])
 (.seq (.reg [m 10 0, o 11 (.callf 43 [(t 10)]), m 9 11, o 12 (.extr (t 9) 0), o 13 (.extr (t 9) 1), o 14 (.extr (t 9) 2), m 4 12, m 5 13, m 6 14])
 (.seq (.seq (.reg [m 15 6, o 16 (b .neq (t 15) (k 0))])
 (.cond (t 16)
 (.seq (.reg [m 17 6, o 2 (.mv (.c (.d .nilp))), m 3 17])
 .ret)
 .skip))
 (.seq (.reg [m 19 5, o 20 (.callf 44 [(t 19)]), m 18 20, o 21 (.extr (t 18) 0), o 22 (.extr (t 18) 1), o 23 (.extr (t 18) 2), m 7 21, m 8 22, m 6 23])
 (.seq (.seq (.reg [m 24 6, o 25 (b .neq (t 24) (k 0))])
 (.cond (t 25)
 (.seq (.reg [m 26 6, o 2 (.mv (.c (.d .nilp))), m 3 26])
 .ret)
 .skip))
 (.seq (.seq (.reg [m 27 4, o 28 (.callf 33 [(t 27)]), o 29 (.fld 1 false 1 (t 28)), m 30 8, o 31 (b .gtr (t 29) (t 30))])
 (.cond (t 31)
 (.reg [m 32 7, o 33 (.callf 45 [(t 32)])])
 .skip))
 (.seq (.reg [m 34 4, m 35 7, o 36 (.build [(.d .nilp), (.d .nilp)] [(0, 1, (t 34)), (1, 1, (t 35))]), o 37 (.box 35 (t 36)), m 2 37, o 3 (.mv (k 0))])
 .ret))))))), true⟩
/-- foreman/foremanlow.Shallow -/
def a20 : AFn := ⟨6, [.tmp 2],
 (.seq (.reg [⟨(some 1), (.box 24 (.t 0)), none⟩, ⟨(some 2), (.mv (.c (.d (.b false)))), none⟩])
 (.seq (.reg [⟨(some 3), (.load true 4 (.t 1)), none⟩, ⟨(some 4), (.callf 46 [(.t 3), (.c (.d (.i .i64 20)))]), none⟩, ⟨(some 5), (.bin .leq .bad (.t 4) (.c (.d (.i .i64 400)))), none⟩, ⟨(some 2), (.mv (.t 5)), none⟩])
 .ret)), false⟩
/-- foreman/foremanlaw26.Made -/
def a21 : AFn := ⟨27, [.tmp 4, .tmp 5, .tmp 6],
 (.seq (.reg [o 3 (.box 46 (t 1)), o 4 (.mv (.c (.d .nilp))), o 5 (.mv (.c (.d .nilp))), o 6 (.mv (k 0))])
 (.seq (.reg [m 11 0, o 12 (.callf 14 [(t 11)]), m 10 12, o 13 (.extr (t 10) 0), o 14 (.extr (t 10) 1), m 7 13, m 8 14])
 (.seq (.seq (.reg [m 15 8, o 16 (b .neq (t 15) (k 0))])
 (.cond (t 16)
 (.seq (.reg [m 17 8, o 4 (.mv (.c (.d .nilp))), o 5 (.mv (.c (.d .nilp))), m 6 17])
 .ret)
 .skip))
 (.seq (.reg [m 19 7, o 20 (.load true 5 (t 3)), o 21 (.callf 17 [(t 19), (t 20)]), m 18 21, o 22 (.extr (t 18) 0), o 23 (.extr (t 18) 1), m 9 22, m 8 23])
 (.seq (.reg [m 24 7, m 25 9, m 26 8, m 4 24, m 5 25, m 6 26])
 .ret))))), true⟩
/-- (*foreman/engine.Engine).none -/
def a22 : AFn := ⟨12, [.tmp 2],
 (.seq (.reg [o 2 (.mv (.c (.d (.b false))))])
 (.seq (.reg [m 3 0, o 4 (.bin .eql .ptr (t 3) (.c (.d .nilp))), m 5 4, mg 6 0 5 false, og 7 (.nilchk (t 6)) 5 false, og 8 (.fadd 1 (t 7)) 5 false, lg 9 8 5 false, og 10 (.bin .eql .ptr (t 9) (.c (.d .nilp))) 5 false, o 11 (.pick (t 5) (.c (.d (.b true))) (t 10)), m 2 11])
 .ret)), false⟩
/-- (*foreman/engine.Engine).rows -/
def a23 : AFn := ⟨13, [.tmp 4, .tmp 5],
 (.seq (.reg [o 3 (.box 27 (t 1)), o 4 (.mv (.c .nilsl)), o 5 (.mv (k 0))])
 (.seq (.dreg 0 [⟨m 6 0, 0, false, [], none⟩, ⟨o 7 (.callf 11 [(t 6)]), 1, true, [], none⟩, ⟨o 8 (.load true 9 (t 3)), 2, false, [], none⟩, ⟨o 9 (.build [(.d (.i .u8 0)), (.d (.i .u64 0)), (.d (.i .u8 0)), (.d (.s [])), (.d (.i .i64 0)), (.d (.i .u8 0)), (.d (.i .i64 0)), (.d (.s [])), .nilsl, .nilsl, (.d (.i .i64 0)), (.d (.i .i64 0)), (.d (.i .i64 0)), (.d (.i .i64 0)), (.d (.i .i64 0)), (.d (.i .i64 0)), (.d (.i .i64 0)), .nilsl, (.d (.i .i64 0))] [(0, 1, (.c (.d (.i .u8 1)))), (1, 1, (t 7)), (2, 9, (t 8))]), 3, false, [1], none⟩, ⟨o 10 (.callf 47 [(t 9)]), 4, true, [], none⟩, ⟨o 11 (.extr (t 10) 0), 5, false, [4, 1], none⟩, ⟨o 12 (.extr (t 10) 1), 6, false, [4, 1], none⟩, ⟨m 4 11, 7, false, [4, 1], none⟩, ⟨m 5 12, 8, false, [4, 1], none⟩])
 .ret)), false⟩
/-- (*foreman/step.Machine).Copy -/
def a26 : AFn := ⟨17, [.tmp 2],
 (.seq (.reg [o 2 (.mv (.c (.d .nilp)))])
 (.seq (.seq (.reg [m 3 0, o 4 (.callf 50 [(t 3)])])
 (.cond (t 4)
 (.seq (.reg [o 2 (.mv (.c (.d .nilp)))])
 .ret)
 .skip))
 (.seq (.dreg 1 [⟨m 5 0, 0, false, [], none⟩, ⟨o 6 (.nilchk (t 5)), 1, false, [], none⟩, ⟨o 7 (.fadd 0 (t 6)), 2, false, [], none⟩, ⟨o 8 (.load true 8 (t 7)), 3, false, [], none⟩, ⟨o 9 (.callf 51 [(t 8)]), 4, true, [], none⟩, ⟨m 10 0, 5, false, [], none⟩, ⟨o 11 (.nilchk (t 10)), 6, false, [], none⟩, ⟨o 12 (.fadd 8 (t 11)), 7, false, [], none⟩, ⟨l 13 12, 8, false, [], none⟩, ⟨o 14 (.callf 52 [(t 13)]), 9, true, [], none⟩, ⟨o 15 (.build [(.d (.i .i64 0)), (.d (.i .i64 0)), (.d (.i .i64 0)), (.d (.i .i64 0)), (.d (.i .i64 0)), (.d (.i .i64 0)), .nilsl, (.d (.i .i64 0)), (.d .nilp)] [(0, 8, (t 9)), (8, 1, (t 14))]), 10, false, [9, 4], none⟩, ⟨o 16 (.box 117 (t 15)), 11, false, [], (some 0)⟩, ⟨m 2 16, 12, false, [9, 4], none⟩])
 .ret))), true⟩
/-- (*foreman/step.Machine).Do -/
def a27 : AFn := ⟨24, [.cell 4 true 5],
 (.seq (.reg [o 3 (.box 27 (t 1)), o 4 (.alloc 42 [(.d (.i .i64 0)), (.d (.i .i64 0)), (.d (.i .i64 0)), .nilsl, (.d (.i .u8 0))])])
 (.seq (.blk 0 (.seq (.reg [m 7 0, o 8 (.callf 50 [(t 7)]), m 6 8])
 (.cond (t 6)
 (.seq (.reg [o 9 (.callf 53 [(k 1)]), u (.store 5 (t 4) (t 9))])
 .ret)
 (.seq (.reg [o 11 (.load true 9 (t 3)), o 12 (.callf 54 [(t 11)]), o 13 (.un .not (t 12)), m 10 13])
 (.cond (t 10)
 (.seq (.reg [o 14 (.callf 53 [(k 2)]), u (.store 5 (t 4) (t 14))])
 .ret)
 .skip)))))
 (.seq (.reg [o 15 .mkmap, u (.mupd (.one .i) (t 15) (.c (.d (.i .u8 1))) (.c (.d (.fn (.func 55) [] [])))), u (.mupd (.one .i) (t 15) (.c (.d (.i .u8 2))) (.c (.d (.fn (.func 56) [] [])))), u (.mupd (.one .i) (t 15) (.c (.d (.i .u8 3))) (.c (.d (.fn (.func 57) [] [])))), u (.mupd (.one .i) (t 15) (.c (.d (.i .u8 4))) (.c (.d (.fn (.func 58) [] [])))), u (.mupd (.one .i) (t 15) (.c (.d (.i .u8 5))) (.c (.d (.fn (.func 59) [] [])))), m 16 15, m 5 16])
 (.seq (.reg [m 17 5, o 18 (.fadd 0 (t 3)), l 19 18, o 20 (.look (.one .i) false [(.d .nilf)] false (t 17) (t 19)), m 21 0, o 22 (.load true 9 (t 3)), o 23 (.callv (t 20) [(t 21), (t 22)]), u (.store 5 (t 4) (t 23))])
 .ret)))), false⟩
/-- foreman/step.Takes -/
def a28 : AFn := ⟨19, [.tmp 4],
 (.seq (.reg [o 2 (.box 27 (t 0)), o 4 (.mv (.c (.d (.b false))))])
 (.seq (.seq (.reg [m 5 1])
 (.blk 0 (.seq (.reg [o 7 (b .eql (t 5) (k 0)), m 6 7])
 (.cond (t 6)
 (.seq (.reg [o 4 (.mv (.c (.d (.b true))))])
 .ret)
 (.seq (.seq (.reg [o 9 (b .eql (t 5) (k 26)), m 8 9])
 (.cond (t 8)
 .skip
 (.seq (.reg [o 10 (b .eql (t 5) (k 24)), m 8 10])
 (.cond (t 8)
 .skip
 (.seq (.reg [o 11 (b .eql (t 5) (k 20)), m 8 11])
 (.cond (t 8)
 .skip
 (.seq (.reg [o 12 (b .eql (t 5) (k 23)), m 8 12])
 (.cond (t 8)
 .skip
 (.seq (.reg [o 13 (b .eql (t 5) (k 21)), m 8 13])
 (.cond (t 8)
 .skip
 (.seq (.reg [o 14 (b .eql (t 5) (k 22)), m 8 14])
 (.cond (t 8)
 .skip
 (.reg [o 15 (b .eql (t 5) (k 25)), m 8 15])))))))))))))
 (.cond (t 8)
 (.seq (.reg [o 16 (.fadd 0 (t 2)), l 17 16, o 18 (b .eql (t 17) (.c (.d (.i .u8 3)))), m 4 18])
 .ret)
 .skip))))))
 (.seq (.reg [o 4 (.mv (.c (.d (.b false))))])
 .ret))), false⟩
/-- (*foreman/journal.Journal).Append -/
def a29 : AFn := ⟨28, [.tmp 4],
 (.seq (.reg [o 4 (.mv (k 0))])
 (.seq (.seq (.reg [m 7 0, o 8 (.callf 60 [(t 7)])])
 (.cond (t 8)
 (.seq (.reg [o 4 (.mv (k 1))])
 .ret)
 .skip))
 (.seq (.reg [m 10 1, o 11 (.callf 61 [(t 10)]), m 9 11, o 12 (.extr (t 9) 0), o 13 (.extr (t 9) 1), m 5 12, m 6 13])
 (.seq (.seq (.reg [m 14 6, o 15 (b .neq (t 14) (k 0))])
 (.cond (t 15)
 (.seq (.reg [m 16 6, m 4 16])
 .ret)
 .skip))
 (.seq (.reg [m 17 0, m 18 0, o 19 (.nilchk (t 18)), o 20 (.fadd 1 (t 19)), o 21 (.fadd 2 (t 20)), l 22 21, o 23 (.cvi .i64 (t 22)), m 24 5, o 25 (.callf 63 [(t 17), (t 23), (t 24)]), o 26 (.bsl 44 1 1 [(.d .nilf)] [(0, 1, (t 25))]), o 27 (.callf 62 [(t 26)]), m 4 27])
 .ret))))), false⟩
/-- (*foreman/engine.Engine).whole -/
def a30 : AFn := ⟨12, [.tmp 2, .tmp 3],
 (.seq (.reg [o 2 (.mv (.c .nilsl)), o 3 (.mv (k 0))])
 (.seq (.reg [m 4 0, o 5 (.callf 11 [(t 4)]), m 6 0, o 7 (.callf 10 [(t 6)]), o 8 (.build [(.d (.i .u8 0)), (.d (.i .u64 0)), (.d (.i .u8 0)), (.d (.s [])), (.d (.i .i64 0)), (.d (.i .u8 0)), (.d (.i .i64 0)), (.d (.s [])), .nilsl, .nilsl, (.d (.i .i64 0)), (.d (.i .i64 0)), (.d (.i .i64 0)), (.d (.i .i64 0)), (.d (.i .i64 0)), (.d (.i .i64 0)), (.d (.i .i64 0)), .nilsl, (.d (.i .i64 0))] [(0, 1, (.c (.d (.i .u8 2)))), (1, 1, (t 5)), (11, 8, (t 7))]), o 9 (.callf 47 [(t 8)]), o 10 (.extr (t 9) 0), o 11 (.extr (t 9) 1), m 2 10, m 3 11])
 .ret)), false⟩
/-- (*foreman/journal.Journal).Switch -/
def a31 : AFn := ⟨40, [.tmp 4],
 (.seq (.reg [o 2 (.box 32 (t 0)), o 4 (.mv (k 0))])
 (.seq (.seq (.reg [l 9 2, o 10 (.callf 60 [(t 9)])])
 (.cond (t 10)
 (.seq (.reg [o 4 (.mv (k 1))])
 .ret)
 .skip))
 (.seq (.reg [m 12 1, o 13 (.callf 61 [(t 12)]), m 11 13, o 14 (.extr (t 11) 0), o 15 (.extr (t 11) 1), m 5 14, m 6 15])
 (.seq (.seq (.reg [m 16 6, o 17 (b .neq (t 16) (k 0))])
 (.cond (t 17)
 (.seq (.reg [m 18 6, m 4 18])
 .ret)
 .skip))
 (.seq (.reg [l 19 2, o 20 (.nilchk (t 19)), o 21 (.fadd 1 (t 20)), o 22 (.fadd 2 (t 21)), l 23 22, o 24 (.cvi .i64 (t 23)), o 7 (.alloc 3 [(.d (.i .i64 0))]), u (.store 1 (t 7) (t 24))])
 (.seq (.reg [o 25 (.mkfn (.func 64) [] [(t 2), (t 7)]), m 8 25])
 (.seq (.dreg 1 [⟨l 26 2, 0, false, [], none⟩, ⟨l 27 7, 1, false, [], none⟩, ⟨o 28 (b .sub (k 1) (t 27)), 2, false, [], none⟩, ⟨m 29 5, 3, false, [], none⟩, ⟨o 30 (.callf 63 [(t 26), (t 28), (t 29)]), 4, true, [], none⟩, ⟨l 32 2, 6, false, [], none⟩, ⟨o 33 (.nilchk (t 32)), 7, false, [], none⟩, ⟨o 34 (.fadd 0 (t 33)), 8, false, [], none⟩, ⟨l 35 34, 9, false, [], none⟩, ⟨l 36 7, 10, false, [], none⟩, ⟨o 37 (.callf 66 [(t 35), (t 36), (k 0)]), 11, true, [], none⟩, ⟨m 31 8, 5, false, [], none⟩, ⟨o 38 (.bsl 44 1 3 [(.d .nilf)] [(0, 1, (t 30)), (1, 1, (t 31)), (2, 1, (t 37))]), 12, false, [], (some 0)⟩, ⟨o 39 (.callf 62 [(t 38)]), 13, true, [], none⟩, ⟨m 4 39, 14, false, [13, 11, 4], none⟩])
 .ret))))))), false⟩
/-- (*foreman/step.Machine).State -/
def a32 : AFn := ⟨11, [.cell 2 true 8],
 (.seq (.reg [o 2 (.alloc 49 [(.d (.i .i64 0)), (.d (.i .i64 0)), (.d (.i .i64 0)), (.d (.i .i64 0)), (.d (.i .i64 0)), (.d (.i .i64 0)), .nilsl, (.d (.i .i64 0))])])
 (.seq (.seq (.reg [m 3 0, o 4 (.callf 50 [(t 3)])])
 (.cond (t 4)
 (.seq (.reg [o 5 (.build [(.d (.i .i64 0)), (.d (.i .i64 0)), (.d (.i .i64 0)), (.d (.i .i64 0)), (.d (.i .i64 0)), (.d (.i .i64 0)), .nilsl, (.d (.i .i64 0))] []), u (.store 8 (t 2) (t 5))])
 .ret)
 .skip))
 (.seq (.reg [m 6 0, o 7 (.nilchk (t 6)), o 8 (.fadd 0 (t 7)), o 9 (.load true 8 (t 8)), o 10 (.callf 51 [(t 9)]), u (.store 8 (t 2) (t 10))])
 .ret))), false⟩
/-- (*foreman/journal.Journal).Head -/
def a33 : AFn := ⟨10, [.cell 2 true 3],
 (.seq (.reg [o 2 (.alloc 94 [(.d (.i .u64 0)), (.d (.i .u64 0)), (.d (.i .u8 0))])])
 (.seq (.seq (.reg [m 3 0, o 4 (.callf 60 [(t 3)])])
 (.cond (t 4)
 (.seq (.reg [o 5 (.build [(.d (.i .u64 0)), (.d (.i .u64 0)), (.d (.i .u8 0))] []), u (.store 3 (t 2) (t 5))])
 .ret)
 .skip))
 (.seq (.reg [m 6 0, o 7 (.nilchk (t 6)), o 8 (.fadd 1 (t 7)), o 9 (.load true 3 (t 8)), u (.store 3 (t 2) (t 9))])
 .ret))), false⟩
/-- (*foreman/journal.Journal).Free -/
def a34 : AFn := ⟨10, [.tmp 2],
 (.seq (.reg [o 2 (.mv (k 0))])
 (.seq (.seq (.reg [m 3 0, o 4 (.callf 60 [(t 3)])])
 (.cond (t 4)
 (.seq (.reg [o 2 (.mv (k 0))])
 .ret)
 .skip))
 (.seq (.reg [m 5 0, o 6 (.nilchk (t 5)), o 7 (.fadd 0 (t 6)), l 8 7, o 9 (.callf 67 [(t 8)]), m 2 9])
 .ret))), false⟩
/-- (*foreman/journal.Journal).Size -/
def a35 : AFn := ⟨17, [.tmp 2],
 (.seq (.reg [o 2 (.mv (k 0))])
 (.seq (.seq (.reg [m 3 0, o 4 (.callf 60 [(t 3)])])
 (.cond (t 4)
 (.seq (.reg [o 2 (.mv (k 0))])
 .ret)
 .skip))
 (.seq (.dreg 0 [⟨m 5 0, 0, false, [], none⟩, ⟨o 6 (.nilchk (t 5)), 1, false, [], none⟩, ⟨o 7 (.fadd 0 (t 6)), 2, false, [], none⟩, ⟨l 8 7, 3, false, [], none⟩, ⟨m 9 0, 4, false, [], none⟩, ⟨o 10 (.nilchk (t 9)), 5, false, [], none⟩, ⟨o 11 (.fadd 1 (t 10)), 6, false, [], none⟩, ⟨o 12 (.fadd 2 (t 11)), 7, false, [], none⟩, ⟨l 13 12, 8, false, [], none⟩, ⟨o 14 (.cvi .i64 (t 13)), 9, false, [], none⟩, ⟨o 15 (.callf 68 [(t 8), (t 14)]), 10, true, [], none⟩, ⟨o 16 (.len 1 (t 15)), 11, false, [10], none⟩, ⟨m 2 16, 12, false, [10], none⟩])
 .ret))), false⟩
/-- (*foreman/disk.Disk).none -/
def a36 : AFn := ⟨18, [.tmp 2],
 (.seq (.reg [o 2 (.mv (.c (.d (.b false))))])
 (.seq (.reg [m 3 0, o 4 (.bin .eql .ptr (t 3) (.c (.d .nilp))), m 5 4, mg 6 0 5 false, og 7 (.nilchk (t 6)) 5 false, og 8 (.fadd 0 (t 7)) 5 false, lg 9 8 5 false, og 10 (.un .not (t 9)) 5 false, o 11 (.pick (t 5) (.c (.d (.b true))) (t 10)), m 12 11, mg 13 0 12 false, og 14 (.nilchk (t 13)) 12 false, og 15 (.fadd 137 (t 14)) 12 false, lg 16 15 12 false, o 17 (.pick (t 12) (.c (.d (.b true))) (t 16)), m 2 17])
 .ret)), false⟩
/-- (*foreman/disk.Disk).why -/
def a37 : AFn := ⟨18, [.tmp 2],
 (.seq (.reg [o 2 (.mv (k 0))])
 (.seq (.blk 0 (.seq (.reg [m 4 0, o 5 (.bin .eql .ptr (t 4) (.c (.d .nilp))), m 6 5, mg 7 0 6 false, og 8 (.nilchk (t 7)) 6 false, og 9 (.fadd 0 (t 8)) 6 false, lg 10 9 6 false, og 11 (.un .not (t 10)) 6 false, o 12 (.pick (t 6) (.c (.d (.b true))) (t 11)), m 3 12])
 (.cond (t 3)
 (.seq (.reg [o 2 (.mv (k 1))])
 .ret)
 (.seq (.reg [m 14 0, o 15 (.nilchk (t 14)), o 16 (.fadd 137 (t 15)), l 17 16, m 13 17])
 (.cond (t 13)
 (.seq (.reg [o 2 (.mv (k 3))])
 .ret)
 .skip)))))
 (.seq (.reg [o 2 (.mv (k 0))])
 .ret))), false⟩
/-- (*foreman/disk.Disk).change -/
def a38 : AFn := ⟨37, [.tmp 6],
 (.seq (.reg [o 6 (.mv (k 0))])
 (.seq (.seq (.reg [m 8 0, o 9 (.nilchk (t 8)), o 10 (.fadd 136 (t 9)), l 11 10, m 7 11])
 (.seq (.reg [m 12 7, o 13 (.bin .neq .ptr (t 12) (.c (.d .nilp)))])
 (.cond (t 13)
 (.seq (.seq (.reg [m 14 7, o 15 (.nilchk (t 14)), o 16 (.fadd 0 (t 15)), l 17 16, o 18 (b .eql (t 17) (k 0))])
 (.cond (t 18)
 (.seq (.reg [m 19 2, m 20 7, o 21 (.nilchk (t 20)), o 22 (.fadd 1 (t 21)), l 23 22, o 24 (.callv (t 19) [(t 23)])])
 (.seq (.reg [m 25 0, o 26 (.nilchk (t 25)), o 27 (.fadd 137 (t 26)), u (.store 1 (t 27) (.c (.d (.b true))))])
 (.seq (.reg [o 6 (.mv (k 3))])
 .ret)))
 .skip))
 (.reg [m 28 7, o 29 (.nilchk (t 28)), o 30 (.fadd 0 (t 29)), l 31 30, o 32 (b .sub (t 31) (k 1)), o 33 (.nilchk (t 28)), o 34 (.fadd 0 (t 33)), u (.store 1 (t 34) (t 32))]))
 .skip)))
 (.seq (.reg [m 35 1, o 36 (.callv (t 35) [])])
 (.seq (.reg [o 6 (.mv (k 0))])
 .ret)))), false⟩
/-- (*foreman/disk.Disk).SyncHead$1 -/
def a39 : AFn := ⟨26, [],
 (.seq (.reg [o 3 (.mv (k 0))])
 (.blk 0 (.loop (.seq (.reg [o 4 (b .lss (t 3) (k 2))])
 (.seq (.cond (t 4)
 .skip
 (.exit 0))
 (.seq (.blk 1 (.seq (.reg [m 5 3, m 1 5])
 (.seq (.reg [l 6 0, m 7 1, o 8 (.nilchk (t 6)), o 9 (.fadd 6 (t 8)), o 10 (.iaA 2 65 (t 9) (t 7)), m 2 10])
 (.seq (.reg [m 11 2, o 12 (.nilchk (t 11)), o 13 (.fadd 64 (t 12)), l 14 13])
 (.cond (t 14)
 (.reg [m 15 2, m 16 2, m 17 2, o 18 (.nilchk (t 17)), o 19 (.fadd 32 (t 18)), o 20 (.load true 32 (t 19)), o 21 (.nilchk (t 15)), o 22 (.fadd 0 (t 21)), u (.store 32 (t 22) (t 20)), o 23 (.nilchk (t 16)), o 24 (.fadd 64 (t 23)), u (.store 1 (t 24) (.c (.d (.b false))))])
 .skip)))))
 (.reg [o 25 (b .add (t 3) (k 1)), m 3 25]))))))), false⟩
/-- foreman/disk.nothing -/
def a40 : AFn := ⟨2, [],
 .skip, false⟩
/-- foreman/step.New -/
def a41 : AFn := ⟨9, [.tmp 2, .tmp 3],
 (.seq (.reg [o 1 (.box 46 (t 0)), o 2 (.mv (.c (.d .nilp))), o 3 (.mv (k 0))])
 (.seq (.reg [o 4 (.load true 5 (t 1)), o 5 (.build [(.d (.i .i64 0)), (.d (.i .i64 0)), (.d (.i .i64 0)), (.d (.i .i64 0)), (.d (.i .i64 0)), (.d (.i .i64 0)), .nilsl, (.d (.i .i64 0))] [(0, 5, (t 4))]), o 6 (.callf 69 [(t 5)]), o 7 (.extr (t 6) 0), o 8 (.extr (t 6) 1), m 2 7, m 3 8])
 .ret)), true⟩
/-- foreman/journal.Format -/
def a42 : AFn := ⟨27, [.tmp 2],
 (.seq (.reg [o 2 (.mv (k 0))])
 (.seq (.reg [m 6 0, o 7 (.callf 70 [(t 6)]), m 5 7, o 8 (.extr (t 5) 0), o 9 (.extr (t 5) 1), o 3 (.alloc 94 [(.d (.i .u64 0)), (.d (.i .u64 0)), (.d (.i .u8 0))]), u (.store 3 (t 3) (t 8)), m 4 9])
 (.seq (.seq (.reg [m 10 4, o 11 (b .neq (t 10) (k 0)), m 12 11, mg 13 4 12 true, og 14 (b .neq (t 13) (k 50)) 12 true, o 15 (.pick (t 12) (t 14) (.c (.d (.b false))))])
 (.cond (t 15)
 (.seq (.reg [m 16 4, m 2 16])
 .ret)
 .skip))
 (.seq (.reg [o 17 (.fadd 1 (t 3)), u (.store 1 (t 17) (.c (.d (.i .u64 0)))), o 18 (.fadd 2 (t 3)), u (.store 1 (t 18) (.c (.d (.i .u8 0))))])
 (.seq (.reg [m 19 0, o 20 (.callf 66 [(t 19), (k 0), (k 0)]), m 21 0, o 22 (.callf 66 [(t 21), (k 1), (k 0)]), m 23 0, o 24 (.callf 65 [(t 23), (t 3)]), o 25 (.bsl 44 1 3 [(.d .nilf)] [(0, 1, (t 20)), (1, 1, (t 22)), (2, 1, (t 24))]), o 26 (.callf 62 [(t 25)]), m 2 26])
 .ret))))), false⟩
/-- foreman/journal.Open -/
def a43 : AFn := ⟨55, [.tmp 2, .tmp 3, .tmp 4],
 (.seq (.reg [o 2 (.mv (.c (.d .nilp))), o 3 (.mv (.c .nilsl)), o 4 (.mv (k 0))])
 (.seq (.reg [m 13 0, o 14 (.callf 70 [(t 13)]), m 12 14, o 15 (.extr (t 12) 0), o 16 (.extr (t 12) 1), o 5 (.alloc 94 [(.d (.i .u64 0)), (.d (.i .u64 0)), (.d (.i .u8 0))]), u (.store 3 (t 5) (t 15)), m 6 16])
 (.seq (.seq (.reg [m 17 6, o 18 (b .neq (t 17) (k 0))])
 (.cond (t 18)
 (.seq (.reg [m 19 6, o 2 (.mv (.c (.d .nilp))), o 3 (.mv (.c .nilsl)), m 4 19])
 .ret)
 .skip))
 (.seq (.reg [o 20 (.fadd 2 (t 5)), l 21 20, o 22 (.cvi .i64 (t 21)), m 7 22])
 (.seq (.reg [m 24 0, m 25 7, o 26 (.callf 68 [(t 24), (t 25)]), o 27 (.callf 71 [(t 26)]), m 23 27, o 28 (.extr (t 23) 0), o 29 (.extr (t 23) 1), o 30 (.extr (t 23) 2), m 8 28, m 9 29, m 10 30])
 (.seq (.reg [o 31 (.fadd 1 (t 5)), l 32 31, o 33 (b .add (t 32) (.c (.d (.i .u64 1)))), o 34 (.fadd 1 (t 5)), u (.store 1 (t 34) (t 33))])
 (.seq (.seq (.reg [m 35 0, m 36 7, m 37 9, o 38 (.callf 66 [(t 35), (t 36), (t 37)]), m 39 0, m 40 7, o 41 (b .sub (k 1) (t 40)), o 42 (.callf 66 [(t 39), (t 41), (k 0)]), m 43 0, o 44 (.callf 65 [(t 43), (t 5)]), o 45 (.bsl 44 1 3 [(.d .nilf)] [(0, 1, (t 38)), (1, 1, (t 42)), (2, 1, (t 44))]), o 46 (.callf 62 [(t 45)]), m 11 46])
 (.seq (.reg [m 47 11, o 48 (b .neq (t 47) (k 0))])
 (.cond (t 48)
 (.seq (.reg [m 49 11, o 2 (.mv (.c (.d .nilp))), o 3 (.mv (.c .nilsl)), m 4 49])
 .ret)
 .skip)))
 (.seq (.reg [m 50 0, o 51 (.load true 3 (t 5)), o 52 (.build [(.d .nilp), (.d (.i .u64 0)), (.d (.i .u64 0)), (.d (.i .u8 0))] [(0, 1, (t 50)), (1, 3, (t 51))]), o 53 (.box 128 (t 52)), m 54 8, m 2 53, m 3 54, o 4 (.mv (k 0))])
 .ret)))))))), true⟩
/-- foreman/replay.Run -/
def a44 : AFn := ⟨42, [.cell 2 false 1, .cell 3 false 1, .cell 4 false 1],
 (.seq (.reg [o 2 (.alloc 33 [(.d .nilp)]), o 3 (.alloc 51 [(.d (.i .u64 0))]), o 4 (.alloc 37 [(.d (.i .i64 0))])])
 (.seq (.reg [o 5 (.alloc 33 [(.d .nilp)])])
 (.seq (.reg [o 6 (.alloc 51 [(.d (.i .u64 0))]), u (.store 1 (t 6) (.c (.d (.i .u64 0))))])
 (.seq (.seq (.reg [m 9 0, o 10 (.callf 72 [(t 9)])])
 (.blk 0 (.rfun (t 10) [11, 12] (.seq (.reg [o 7 (.alloc 112 [(.d (.i .u8 0)), (.d (.i .u64 0)), (.d (.i .u8 0)), (.d (.s [])), (.d (.i .i64 0)), (.d (.i .u8 0)), (.d (.i .i64 0)), (.d (.s [])), .nilsl, .nilsl, (.d (.i .i64 0)), (.d (.i .i64 0)), (.d (.i .i64 0)), (.d (.i .i64 0)), (.d (.i .i64 0)), (.d (.i .i64 0)), (.d (.i .i64 0)), .nilsl, (.d (.i .i64 0))]), u (.store 19 (t 7) (t 11))])
 (.reg [m 8 12])) (.blk 1 (.seq (.seq (.reg [m 13 8, o 14 (b .neq (t 13) (k 0)), m 15 14, lg 16 5 15 false, og 17 (.bin .neq .ptr (t 16) (.c (.d .nilp))) 15 false, mg 18 17 15 false, og 19 (.fadd 1 (t 7)) 18 true, lg 20 19 18 true, lg 21 6 18 true, og 22 (b .lss (t 20) (t 21)) 18 true, og 23 (.pick (t 18) (t 22) (.c (.d (.b false)))) 15 false, o 24 (.pick (t 15) (.c (.d (.b true))) (t 23))])
 (.cond (t 24)
 (.seq (.reg [u (.store 1 (t 2) (.c (.d .nilp))), u (.store 1 (t 3) (.c (.d (.i .u64 0)))), u (.store 1 (t 4) (k 30))])
 .ret)
 .skip))
 (.seq (.seq (.reg [o 25 (.fadd 1 (t 7)), l 26 25, l 27 6, o 28 (b .gtr (t 26) (t 27))])
 (.cond (t 28)
 (.reg [l 29 5, o 30 (.callf 45 [(t 29)])])
 .skip))
 (.seq (.dreg 0 [⟨l 31 5, 0, false, [], none⟩, ⟨o 32 (.load true 19 (t 7)), 1, false, [], none⟩, ⟨o 33 (.callf 73 [(t 31), (t 32)]), 2, true, [], none⟩, ⟨u (.store 1 (t 5) (t 33)), 5, true, [], none⟩, ⟨o 34 (.fadd 1 (t 7)), 3, false, [], none⟩, ⟨l 35 34, 4, false, [], none⟩, ⟨u (.store 1 (t 6) (t 35)), 6, true, [], none⟩])
 (.seq (.reg [l 36 5, o 37 (.bin .eql .ptr (t 36) (.c (.d .nilp)))])
 (.cond (t 37)
 (.seq (.reg [u (.store 1 (t 2) (.c (.d .nilp))), u (.store 1 (t 3) (.c (.d (.i .u64 0)))), u (.store 1 (t 4) (k 30))])
 .ret)
 .skip)))))))))
 (.seq (.seq (.reg [l 38 5, o 39 (.bin .eql .ptr (t 38) (.c (.d .nilp)))])
 (.cond (t 39)
 (.seq (.reg [u (.store 1 (t 2) (.c (.d .nilp))), u (.store 1 (t 3) (.c (.d (.i .u64 0)))), u (.store 1 (t 4) (k 30))])
 .ret)
 .skip))
 (.seq (.dreg 0 [⟨l 40 5, 0, false, [], none⟩, ⟨u (.store 1 (t 2) (t 40)), 2, true, [], none⟩, ⟨l 41 6, 1, false, [], none⟩, ⟨u (.store 1 (t 3) (t 41)), 3, true, [], none⟩, ⟨u (.store 1 (t 4) (k 0)), 4, true, [], none⟩])
 .ret)))))), true⟩
/-- (*foreman/step.Machine).Lose -/
def a45 : AFn := ⟨39, [.tmp 2],
 (.seq (.reg [o 2 (.mv (k 0))])
 (.seq (.seq (.reg [m 6 0, o 7 (.callf 50 [(t 6)])])
 (.cond (t 7)
 (.seq (.reg [o 2 (.mv (k 0))])
 .ret)
 .skip))
 (.seq (.reg [o 3 (.mv (k 0))])
 (.seq (.seq (.reg [m 8 0, o 9 (.nilchk (t 8)), o 10 (.fadd 0 (t 9)), o 11 (.fadd 6 (t 10)), l 12 11, o 13 (.len 1 (t 12)), o 14 (.mv (k 0))])
 (.blk 0 (.loop (.seq (.reg [o 15 (b .lss (t 14) (t 13))])
 (.seq (.cond (t 15)
 .skip
 (.exit 0))
 (.seq (.blk 1 (.seq (.reg [m 16 14, m 4 16])
 (.seq (.reg [m 17 0, o 18 (.nilchk (t 17)), o 19 (.fadd 0 (t 18)), o 20 (.fadd 6 (t 19)), l 21 20, m 22 4, o 23 (.iaS 16 (t 21) (t 22)), m 5 23])
 (.seq (.reg [m 24 5, o 25 (.nilchk (t 24)), o 26 (.fadd 9 (t 25)), l 27 26, o 28 (b .eql (t 27) (.c (.d (.i .u8 2))))])
 (.cond (t 28)
 (.seq (.reg [m 29 5, m 30 5, o 31 (.nilchk (t 29)), o 32 (.fadd 9 (t 31)), u (.store 1 (t 32) (.c (.d (.i .u8 1)))), o 33 (.nilchk (t 30)), o 34 (.fadd 11 (t 33)), u (.store 1 (t 34) (k 0))])
 (.reg [m 35 3, o 36 (b .add (t 35) (k 1)), m 3 36]))
 .skip)))))
 (.reg [o 37 (b .add (t 14) (k 1)), m 14 37])))))))
 (.seq (.reg [m 38 3, m 2 38])
 .ret))))), false⟩
/-- foreman/foremanlow.parts -/
def a46 : AFn := ⟨28, [.tmp 4],
 (.seq (.reg [⟨(some 2), (.box 24 (.t 0)), none⟩, ⟨(some 4), (.mv (.c (.d (.i .i64 0)))), none⟩])
 (.seq (.seq (.reg [⟨(some 8), (.mv (.t 1)), none⟩, ⟨(some 9), (.bin .eql .bad (.t 8) (.c (.d (.i .i64 0)))), none⟩])
 (.cond (.t 9)
 (.seq (.reg [⟨(some 4), (.mv (.c (.d (.i .i64 1000)))), none⟩])
 .ret)
 .skip))
 (.seq (.reg [⟨(some 5), (.mv (.c (.d (.i .i64 1)))), none⟩])
 (.seq (.seq (.reg [⟨(some 10), (.fadd 3 (.t 2)), none⟩, ⟨(some 11), (.load false 1 (.t 10)), none⟩, ⟨(some 12), (.len 1 (.t 11)), none⟩, ⟨(some 13), (.mv (.c (.d (.i .i64 0)))), none⟩])
 (.blk 0 (.loop (.seq (.reg [⟨(some 14), (.bin .lss .bad (.t 13) (.t 12)), none⟩])
 (.seq (.cond (.t 14)
 .skip
 (.exit 0))
 (.seq (.blk 1 (.seq (.reg [⟨(some 15), (.iaS 4 (.t 11) (.t 13)), none⟩, ⟨(some 16), (.load true 4 (.t 15)), none⟩, ⟨(some 7), (.alloc 24 [(.d (.i .u8 0)), (.d (.i .i64 0)), (.d (.s [])), .nilsl]), none⟩, ⟨none, (.store 4 (.t 7) (.t 16)), none⟩])
 (.seq (.reg [⟨(some 17), (.mv (.t 5)), none⟩, ⟨(some 18), (.load true 4 (.t 7)), none⟩, ⟨(some 19), (.mv (.t 1)), none⟩, ⟨(some 20), (.bin .sub .bad (.t 19) (.c (.d (.i .i64 1)))), none⟩, ⟨(some 21), (.callf 46 [(.t 18), (.t 20)]), none⟩, ⟨(some 22), (.bin .add .bad (.t 17) (.t 21)), none⟩, ⟨(some 5), (.mv (.t 22)), none⟩])
 (.seq (.reg [⟨(some 23), (.mv (.t 5)), none⟩, ⟨(some 24), (.bin .gtr .bad (.t 23) (.c (.d (.i .i64 1000)))), none⟩])
 (.cond (.t 24)
 (.seq (.reg [⟨(some 25), (.mv (.t 5)), none⟩, ⟨(some 4), (.mv (.t 25)), none⟩])
 .ret)
 .skip)))))
 (.reg [⟨(some 26), (.bin .add .bad (.t 13) (.c (.d (.i .i64 1)))), none⟩, ⟨(some 13), (.mv (.t 26)), none⟩])))))))
 (.seq (.reg [⟨(some 27), (.mv (.t 5)), none⟩, ⟨(some 4), (.mv (.t 27)), none⟩])
 .ret))))), false⟩
/-- foreman/replay.Rows -/
def a47 : AFn := ⟨23, [.tmp 2, .tmp 3],
 (.seq (.reg [o 1 (.box 112 (t 0)), o 2 (.mv (.c .nilsl)), o 3 (.mv (k 0))])
 (.seq (.reg [o 8 (.load true 19 (t 1)), o 9 (.callf 74 [(t 8)]), m 7 9, o 10 (.extr (t 7) 0), o 11 (.extr (t 7) 1), m 4 10, m 5 11])
 (.seq (.seq (.reg [m 12 5, o 13 (b .neq (t 12) (k 0))])
 (.cond (t 13)
 (.seq (.reg [o 2 (.mv (.c .nilsl)), o 3 (.mv (k 2))])
 .ret)
 .skip))
 (.seq (.reg [o 14 (.load true 19 (t 1)), o 15 (.callf 76 [(t 14)]), m 16 4, o 17 (.app 5 1 1 false (t 15) (t 16)), o 18 (.callf 75 [(t 17)]), m 6 18])
 (.seq (.seq (.reg [m 19 6, o 20 (.len 1 (t 19)), o 21 (b .gtr (t 20) (k 1024))])
 (.cond (t 21)
 (.seq (.reg [o 2 (.mv (.c .nilsl)), o 3 (.mv (k 31))])
 .ret)
 .skip))
 (.seq (.reg [m 22 6, m 2 22, o 3 (.mv (k 0))])
 .ret)))))), false⟩
/-- foreman/batch.wrong -/
def a48 : AFn := ⟨17, [.tmp 2],
 (.seq (.reg [o 2 (.mv (k 0))])
 (.seq (.reg [o 3 (.mv (.c (.d (.fn (.func 77) [] []))))])
 (.seq (.blk 0 (.seq (.reg [m 5 0, o 6 (.len 1 (t 5)), o 7 (b .eql (t 6) (k 0)), m 8 7, mg 9 0 8 false, og 10 (.len 1 (t 9)) 8 false, og 11 (b .gtr (t 10) (k 1024)) 8 false, o 12 (.pick (t 8) (.c (.d (.b true))) (t 11)), m 4 12])
 (.cond (t 4)
 (.seq (.reg [o 2 (.mv (k 34))])
 .ret)
 (.seq (.reg [m 14 0, m 15 3, o 16 (.callf 78 [(t 14), (t 15)]), m 13 16])
 (.cond (t 13)
 (.seq (.reg [o 2 (.mv (k 31))])
 .ret)
 .skip)))))
 (.seq (.reg [o 2 (.mv (k 0))])
 .ret)))), false⟩
/-- (*foreman/step.Machine).none -/
def a50 : AFn := ⟨12, [.tmp 2],
 (.seq (.reg [o 2 (.mv (.c (.d (.b false))))])
 (.seq (.reg [m 3 0, o 4 (.bin .eql .ptr (t 3) (.c (.d .nilp))), m 5 4, mg 6 0 5 false, og 7 (.nilchk (t 6)) 5 false, og 8 (.fadd 8 (t 7)) 5 false, lg 9 8 5 false, og 10 (.bin .eql .ptr (t 9) (.c (.d .nilp))) 5 false, o 11 (.pick (t 5) (.c (.d (.b true))) (t 10)), m 2 11])
 .ret)), false⟩
/-- foreman/snap.Copy -/
def a51 : AFn := ⟨37, [.cell 2 true 8],
 (.seq (.reg [o 1 (.box 49 (t 0)), o 2 (.alloc 49 [(.d (.i .i64 0)), (.d (.i .i64 0)), (.d (.i .i64 0)), (.d (.i .i64 0)), (.d (.i .i64 0)), (.d (.i .i64 0)), .nilsl, (.d (.i .i64 0))])])
 (.seq (.reg [o 5 (.fadd 6 (t 1)), l 6 5, o 7 (.clone 79 83 16 184 true (t 6)), o 8 (.fadd 6 (t 1)), u (.store 1 (t 8) (t 7))])
 (.seq (.seq (.reg [o 9 (.fadd 6 (t 1)), l 10 9, o 11 (.len 1 (t 10)), o 12 (.mv (k 0))])
 (.blk 0 (.loop (.seq (.reg [o 13 (b .lss (t 12) (t 11))])
 (.seq (.cond (t 13)
 .skip
 (.exit 0))
 (.seq (.blk 1 (.seq (.reg [m 14 12, m 3 14])
 (.seq (.reg [o 15 (.fadd 6 (t 1)), l 16 15, m 17 3, o 18 (.iaS 16 (t 16) (t 17)), m 4 18])
 (.dreg 0 [⟨m 21 4, 2, false, [], none⟩, ⟨o 22 (.nilchk (t 21)), 3, false, [], none⟩, ⟨o 23 (.fadd 6 (t 22)), 4, false, [], none⟩, ⟨l 24 23, 5, false, [], none⟩, ⟨o 25 (.clone 80 3 1 8 false (t 24)), 6, true, [], none⟩, ⟨m 26 4, 7, false, [], none⟩, ⟨o 27 (.nilchk (t 26)), 8, false, [], none⟩, ⟨o 28 (.fadd 12 (t 27)), 9, false, [], none⟩, ⟨o 29 (.load true 4 (t 28)), 10, false, [], none⟩, ⟨o 30 (.callf 81 [(t 29)]), 11, true, [], none⟩, ⟨m 19 4, 0, false, [], none⟩, ⟨o 31 (.nilchk (t 19)), 12, false, [11, 6], none⟩, ⟨o 32 (.fadd 6 (t 31)), 13, false, [11, 6], none⟩, ⟨u (.store 1 (t 32) (t 25)), 14, true, [], none⟩, ⟨m 20 4, 1, false, [], none⟩, ⟨o 33 (.nilchk (t 20)), 15, false, [14, 11, 6], none⟩, ⟨o 34 (.fadd 12 (t 33)), 16, false, [14, 11, 6], none⟩, ⟨u (.store 4 (t 34) (t 30)), 17, true, [], none⟩]))))
 (.reg [o 35 (b .add (t 12) (k 1)), m 12 35])))))))
 (.seq (.reg [o 36 (.load true 8 (t 1)), u (.store 8 (t 2) (t 36))])
 .ret)))), false⟩
/-- (*foreman/order.Order).Copy -/
def a52 : AFn := ⟨22, [.tmp 2],
 (.seq (.reg [o 2 (.mv (.c (.d .nilp)))])
 (.seq (.seq (.reg [m 3 0, o 4 (.callf 82 [(t 3)])])
 (.cond (t 4)
 (.seq (.reg [o 2 (.mv (.c (.d .nilp)))])
 .ret)
 .skip))
 (.seq (.dreg 1 [⟨m 5 0, 0, false, [], none⟩, ⟨o 6 (.nilchk (t 5)), 1, false, [], none⟩, ⟨o 7 (.fadd 0 (t 6)), 2, false, [], none⟩, ⟨l 8 7, 3, false, [], none⟩, ⟨o 9 (.callf 83 [(t 8)]), 4, true, [], none⟩, ⟨m 10 0, 5, false, [], none⟩, ⟨o 11 (.nilchk (t 10)), 6, false, [], none⟩, ⟨o 12 (.fadd 1 (t 11)), 7, false, [], none⟩, ⟨l 13 12, 8, false, [], none⟩, ⟨o 14 (.clone 80 3 1 8 true (t 13)), 9, true, [], none⟩, ⟨m 15 0, 10, false, [], none⟩, ⟨o 16 (.nilchk (t 15)), 11, false, [], none⟩, ⟨o 17 (.fadd 2 (t 16)), 12, false, [], none⟩, ⟨l 18 17, 13, false, [], none⟩, ⟨o 19 (.clone 80 3 1 8 true (t 18)), 14, true, [], none⟩, ⟨o 20 (.build [(.d .nilp), .nilsl, .nilsl] [(0, 1, (t 9)), (1, 1, (t 14)), (2, 1, (t 19))]), 15, false, [14, 9, 4], none⟩, ⟨o 21 (.box 153 (t 20)), 16, false, [], (some 0)⟩, ⟨m 2 21, 17, false, [14, 9, 4], none⟩])
 .ret))), true⟩
/-- foreman/op.Right -/
def a54 : AFn := ⟨76, [.tmp 2],
 (.seq (.reg [o 1 (.box 27 (t 0)), o 2 (.mv (.c (.d (.b false))))])
 (.seq (.reg [o 4 (.fadd 0 (t 1)), l 5 4, o 6 (.callf 84 [(t 5)]), m 3 6])
 (.seq (.dreg 0 [⟨m 7 3, 0, false, [], none⟩, ⟨o 8 (b .neq (t 7) (.c (.d (.i .u8 0)))), 1, false, [], none⟩, ⟨m 9 8, 2, false, [], none⟩, ⟨og 13 (.fadd 7 (t 1)) 9 true, 6, false, [], none⟩, ⟨lg 14 13 9 true, 7, false, [], none⟩, ⟨og 15 (.callf 86 [(t 14)]) 9 true, 8, true, [], none⟩, ⟨mg 10 3 9 true, 3, false, [], none⟩, ⟨og 11 (b .and (t 10) (.c (.d (.i .u8 1)))) 9 true, 4, false, [], none⟩, ⟨og 12 (b .neq (t 11) (.c (.d (.i .u8 0)))) 9 true, 5, false, [], none⟩, ⟨og 16 (.fadd 7 (t 1)) 9 true, 9, false, [], none⟩, ⟨lg 17 16 9 true, 10, false, [], none⟩, ⟨og 18 (.len 1 (t 17)) 9 true, 11, false, [], none⟩, ⟨og 19 (b .eql (t 18) (k 0)) 9 true, 12, false, [], none⟩, ⟨og 20 (.callf 85 [(t 12), (t 15), (t 19)]) 9 true, 13, true, [], none⟩, ⟨o 21 (.pick (t 9) (t 20) (.c (.d (.b false)))), 14, false, [13, 8], none⟩, ⟨m 22 21, 15, false, [13, 8], none⟩, ⟨mg 23 3 22 true, 16, false, [13, 8], none⟩, ⟨og 24 (b .and (t 23) (.c (.d (.i .u8 2)))) 22 true, 17, false, [13, 8], none⟩, ⟨og 25 (b .neq (t 24) (.c (.d (.i .u8 0)))) 22 true, 18, false, [13, 8], none⟩, ⟨og 26 (.fadd 8 (t 1)) 22 true, 19, false, [13, 8], none⟩, ⟨lg 27 26 22 true, 20, false, [13, 8], none⟩, ⟨og 28 (b .geq (t 27) (k 0)) 22 true, 21, false, [13, 8], none⟩, ⟨mg 29 28 22 true, 22, false, [13, 8], none⟩, ⟨og 30 (.fadd 8 (t 1)) 29 true, 23, false, [13, 8], none⟩, ⟨lg 31 30 29 true, 24, false, [13, 8], none⟩, ⟨og 32 (b .leq (t 31) (k 400)) 29 true, 25, false, [13, 8], none⟩, ⟨og 33 (.pick (t 29) (t 32) (.c (.d (.b false)))) 22 true, 26, false, [13, 8], none⟩, ⟨og 34 (.fadd 8 (t 1)) 22 true, 27, false, [13, 8], none⟩, ⟨lg 35 34 22 true, 28, false, [13, 8], none⟩, ⟨og 36 (b .eql (t 35) (k 0)) 22 true, 29, false, [13, 8], none⟩, ⟨og 37 (.callf 85 [(t 25), (t 33), (t 36)]) 22 true, 30, true, [], none⟩, ⟨o 38 (.pick (t 22) (t 37) (.c (.d (.b false)))), 31, false, [30, 13, 8], none⟩, ⟨m 39 38, 32, false, [30, 13, 8], none⟩, ⟨og 43 (.fadd 1 (t 1)) 39 true, 36, false, [30, 13, 8], none⟩, ⟨lg 44 43 39 true, 37, false, [30, 13, 8], none⟩, ⟨og 45 (.callf 87 [(t 44)]) 39 true, 38, true, [], none⟩, ⟨mg 40 3 39 true, 33, false, [30, 13, 8], none⟩, ⟨og 41 (b .and (t 40) (.c (.d (.i .u8 4)))) 39 true, 34, false, [30, 13, 8], none⟩, ⟨og 42 (b .neq (t 41) (.c (.d (.i .u8 0)))) 39 true, 35, false, [30, 13, 8], none⟩, ⟨og 46 (.fadd 1 (t 1)) 39 true, 39, false, [30, 13, 8], none⟩, ⟨lg 47 46 39 true, 40, false, [30, 13, 8], none⟩, ⟨og 48 (b .eql (t 47) (.c (.d (.s [])))) 39 true, 41, false, [30, 13, 8], none⟩, ⟨og 49 (.callf 85 [(t 42), (t 45), (t 48)]) 39 true, 42, true, [], none⟩, ⟨o 50 (.pick (t 39) (t 49) (.c (.d (.b false)))), 43, false, [42, 38, 30, 13, 8], none⟩, ⟨m 51 50, 44, false, [42, 38, 30, 13, 8], none⟩, ⟨mg 52 3 51 true, 45, false, [42, 38, 30, 13, 8], none⟩, ⟨og 53 (b .and (t 52) (.c (.d (.i .u8 8)))) 51 true, 46, false, [42, 38, 30, 13, 8], none⟩, ⟨og 54 (b .neq (t 53) (.c (.d (.i .u8 0)))) 51 true, 47, false, [42, 38, 30, 13, 8], none⟩, ⟨og 55 (.fadd 2 (t 1)) 51 true, 48, false, [42, 38, 30, 13, 8], none⟩, ⟨lg 56 55 51 true, 49, false, [42, 38, 30, 13, 8], none⟩, ⟨og 57 (b .geq (t 56) (k 1)) 51 true, 50, false, [42, 38, 30, 13, 8], none⟩, ⟨og 58 (.fadd 2 (t 1)) 51 true, 51, false, [42, 38, 30, 13, 8], none⟩, ⟨lg 59 58 51 true, 52, false, [42, 38, 30, 13, 8], none⟩, ⟨og 60 (b .eql (t 59) (k 0)) 51 true, 53, false, [42, 38, 30, 13, 8], none⟩, ⟨og 61 (.callf 85 [(t 54), (t 57), (t 60)]) 51 true, 54, true, [], none⟩, ⟨o 62 (.pick (t 51) (t 61) (.c (.d (.b false)))), 55, false, [54, 42, 38, 30, 13, 8], none⟩, ⟨m 63 62, 56, false, [54, 42, 38, 30, 13, 8], none⟩, ⟨og 67 (.fadd 3 (t 1)) 63 true, 60, false, [54, 42, 38, 30, 13, 8], none⟩, ⟨og 68 (.load true 4 (t 67)) 63 true, 61, false, [54, 42, 38, 30, 13, 8], none⟩, ⟨og 69 (.callf 88 [(t 68)]) 63 true, 62, true, [], none⟩, ⟨og 70 (.fadd 3 (t 1)) 63 true, 63, false, [54, 42, 38, 30, 13, 8], none⟩, ⟨og 71 (.load true 4 (t 70)) 63 true, 64, false, [54, 42, 38, 30, 13, 8], none⟩, ⟨og 72 (.build [(.d (.i .u8 0)), (.d (.i .i64 0)), (.d (.s [])), .nilsl] []) 63 true, 65, false, [54, 42, 38, 30, 13, 8], none⟩, ⟨og 73 (.callf 89 [(t 71), (t 72)]) 63 true, 66, true, [], none⟩, ⟨mg 64 3 63 true, 57, false, [54, 42, 38, 30, 13, 8], none⟩, ⟨og 65 (b .and (t 64) (.c (.d (.i .u8 16)))) 63 true, 58, false, [54, 42, 38, 30, 13, 8], none⟩, ⟨og 66 (b .neq (t 65) (.c (.d (.i .u8 0)))) 63 true, 59, false, [54, 42, 38, 30, 13, 8], none⟩, ⟨og 74 (.callf 85 [(t 66), (t 69), (t 73)]) 63 true, 67, true, [], none⟩, ⟨o 75 (.pick (t 63) (t 74) (.c (.d (.b false)))), 68, false, [67, 66, 62, 54, 42, 38, 30, 13, 8], none⟩, ⟨m 2 75, 69, false, [67, 66, 62, 54, 42, 38, 30, 13, 8], none⟩])
 .ret))), false⟩
/-- (*foreman/step.Machine).submit -/
def a55 : AFn := ⟨69, [.cell 4 true 5],
 (.seq (.reg [o 3 (.box 27 (t 1)), o 4 (.alloc 42 [(.d (.i .i64 0)), (.d (.i .i64 0)), (.d (.i .i64 0)), .nilsl, (.d (.i .u8 0))])])
 (.seq (.reg [m 10 0, o 11 (.nilchk (t 10)), o 12 (.fadd 0 (t 11)), o 13 (.fadd 5 (t 12)), l 14 13, m 5 14])
 (.seq (.blk 0 (.seq (.reg [m 16 5, m 17 0, o 18 (.nilchk (t 17)), o 19 (.fadd 0 (t 18)), o 20 (.fadd 0 (t 19)), o 21 (.fadd 4 (t 20)), l 22 21, o 23 (b .geq (t 16) (t 22)), m 15 23])
 (.cond (t 15)
 (.seq (.reg [o 24 (.callf 53 [(k 27)]), u (.store 5 (t 4) (t 24))])
 .ret)
 (.seq (.dreg 0 [⟨o 26 (.fadd 8 (t 3)), 0, false, [], none⟩, ⟨l 27 26, 1, false, [], none⟩, ⟨m 28 0, 2, false, [], none⟩, ⟨o 29 (.nilchk (t 28)), 3, false, [], none⟩, ⟨o 30 (.fadd 0 (t 29)), 4, false, [], none⟩, ⟨o 31 (.fadd 0 (t 30)), 5, false, [], none⟩, ⟨o 32 (.fadd 0 (t 31)), 6, false, [], none⟩, ⟨l 33 32, 7, false, [], none⟩, ⟨o 34 (b .gtr (t 27) (t 33)), 8, false, [], none⟩, ⟨m 25 34, 9, false, [], none⟩])
 (.cond (t 25)
 (.seq (.reg [o 35 (.callf 53 [(k 22)]), u (.store 5 (t 4) (t 35))])
 .ret)
 .skip)))))
 (.seq (.reg [m 37 0, m 38 5, o 39 (.fadd 8 (t 3)), l 40 39, o 41 (.fadd 7 (t 3)), l 42 41, o 43 (.callf 90 [(t 37), (t 38), (k (-1)), (t 40), (t 42)]), m 36 43, o 44 (.extr (t 36) 0), o 45 (.extr (t 36) 1), o 6 (.alloc 49 [(.d (.i .i64 0)), (.d (.i .i64 0)), (.d (.i .i64 0)), (.d (.i .i64 0)), (.d (.i .i64 0)), (.d (.i .i64 0)), .nilsl, (.d (.i .i64 0))]), u (.store 8 (t 6) (t 44)), m 7 45])
 (.seq (.seq (.reg [m 46 7, o 47 (b .neq (t 46) (k 0))])
 (.cond (t 47)
 (.seq (.reg [m 48 7, o 49 (.callf 53 [(t 48)]), u (.store 5 (t 4) (t 49))])
 .ret)
 .skip))
 (.seq (.reg [o 50 (.fadd 5 (t 6)), l 51 50, o 52 (b .add (t 51) (k 1)), o 53 (.fadd 5 (t 6)), u (.store 1 (t 53) (t 52))])
 (.seq (.reg [m 54 0, o 55 (.load true 8 (t 6)), o 56 (.callf 91 [(t 54), (t 55)])])
 (.seq (.reg [m 58 0, o 59 (.nilchk (t 58)), o 60 (.fadd 0 (t 59)), o 61 (.load true 8 (t 60)), m 62 5, o 63 (.callf 92 [(t 61), (t 62)]), m 57 63, o 64 (.extr (t 57) 0), o 65 (.extr (t 57) 1), m 8 64, m 9 65])
 (.seq (.reg [m 66 5, m 67 8, o 68 (.build [(.d (.i .i64 0)), (.d (.i .i64 0)), (.d (.i .i64 0)), .nilsl, (.d (.i .u8 0))] [(1, 1, (t 66)), (4, 1, (t 67))]), u (.store 5 (t 4) (t 68))])
 .ret))))))))), false⟩
/-- (*foreman/step.Machine).dispatch -/
def a56 : AFn := ⟨75, [.cell 4 true 5],
 (.seq (.reg [o 3 (.box 27 (t 1)), o 4 (.alloc 42 [(.d (.i .i64 0)), (.d (.i .i64 0)), (.d (.i .i64 0)), .nilsl, (.d (.i .u8 0))])])
 (.seq (.reg [m 8 0, o 9 (.fadd 1 (t 3)), l 10 9, o 11 (.callf 93 [(t 8), (t 10), (.c (.d (.i .u8 1)))]), m 7 11, o 12 (.extr (t 7) 0), o 13 (.extr (t 7) 1), o 6 (.alloc 42 [(.d (.i .i64 0)), (.d (.i .i64 0)), (.d (.i .i64 0)), .nilsl, (.d (.i .u8 0))]), m 5 12, u (.store 5 (t 6) (t 13))])
 (.seq (.seq (.reg [o 14 (.fadd 0 (t 6)), l 15 14, o 16 (b .neq (t 15) (k 0))])
 (.cond (t 16)
 (.seq (.reg [o 17 (.load true 5 (t 6)), u (.store 5 (t 4) (t 17))])
 .ret)
 .skip))
 (.seq (.seq (.reg [m 18 0, o 19 (.nilchk (t 18)), o 20 (.fadd 0 (t 19)), o 21 (.fadd 7 (t 20)), l 22 21, o 23 (b .geq (t 22) (k 4611686018427387904))])
 (.cond (t 23)
 (.seq (.reg [o 24 (.fadd 0 (t 6)), u (.store 1 (t 24) (k 12))])
 (.seq (.reg [o 25 (.load true 5 (t 6)), u (.store 5 (t 4) (t 25))])
 .ret))
 .skip))
 (.seq (.reg [m 27 0, o 28 (.nilchk (t 27)), o 29 (.fadd 0 (t 28)), o 30 (.fadd 6 (t 29)), l 31 30, m 32 5, o 33 (.callf 94 [(t 31), (t 32)]), m 26 33, o 34 (.extr (t 26) 0), o 35 (.extr (t 26) 1), o 36 (.fadd 3 (t 6)), u (.store 1 (t 36) (t 34))])
 (.seq (.reg [m 37 0, o 38 (.nilchk (t 37)), o 39 (.fadd 0 (t 38)), o 40 (.fadd 7 (t 39)), l 41 40, o 42 (b .add (t 41) (k 1)), o 43 (.nilchk (t 37)), o 44 (.fadd 0 (t 43)), o 45 (.fadd 7 (t 44)), u (.store 1 (t 45) (t 42))])
 (.seq (.dreg 0 [⟨m 46 0, 0, false, [], none⟩, ⟨o 47 (.nilchk (t 46)), 1, false, [], none⟩, ⟨o 48 (.fadd 0 (t 47)), 2, false, [], none⟩, ⟨o 49 (.fadd 6 (t 48)), 3, false, [], none⟩, ⟨l 50 49, 4, false, [], none⟩, ⟨m 51 5, 5, false, [], none⟩, ⟨m 52 0, 6, false, [], none⟩, ⟨o 53 (.nilchk (t 52)), 7, false, [], none⟩, ⟨o 54 (.fadd 0 (t 53)), 8, false, [], none⟩, ⟨o 55 (.fadd 6 (t 54)), 9, false, [], none⟩, ⟨l 56 55, 10, false, [], none⟩, ⟨m 58 0, 12, false, [], none⟩, ⟨o 59 (.nilchk (t 58)), 13, false, [], none⟩, ⟨o 60 (.fadd 0 (t 59)), 14, false, [], none⟩, ⟨o 61 (.fadd 7 (t 60)), 15, false, [], none⟩, ⟨l 62 61, 16, false, [], none⟩, ⟨o 63 (.iaS 16 (t 50) (t 51)), 17, false, [], none⟩, ⟨o 64 (.fadd 9 (t 63)), 18, false, [], none⟩, ⟨u (.store 1 (t 64) (.c (.d (.i .u8 2)))), 19, true, [], none⟩, ⟨m 57 5, 11, false, [], none⟩, ⟨o 65 (.iaS 16 (t 56) (t 57)), 20, false, [19], none⟩, ⟨o 66 (.fadd 11 (t 65)), 21, false, [19], none⟩, ⟨u (.store 1 (t 66) (t 62)), 22, true, [], none⟩])
 (.seq (.reg [m 67 0, o 68 (.nilchk (t 67)), o 69 (.fadd 0 (t 68)), o 70 (.fadd 7 (t 69)), l 71 70, o 72 (.fadd 2 (t 6)), u (.store 1 (t 72) (t 71)), o 73 (.fadd 4 (t 6)), u (.store 1 (t 73) (.c (.d (.i .u8 2))))])
 (.seq (.reg [o 74 (.load true 5 (t 6)), u (.store 5 (t 4) (t 74))])
 .ret))))))))), false⟩
/-- (*foreman/journal.Journal).none -/
def a60 : AFn := ⟨12, [.tmp 2],
 (.seq (.reg [o 2 (.mv (.c (.d (.b false))))])
 (.seq (.reg [m 3 0, o 4 (.bin .eql .ptr (t 3) (.c (.d .nilp))), m 5 4, mg 6 0 5 false, og 7 (.nilchk (t 6)) 5 false, og 8 (.fadd 0 (t 7)) 5 false, lg 9 8 5 false, og 10 (.bin .eql .ptr (t 9) (.c (.d .nilp))) 5 false, o 11 (.pick (t 5) (.c (.d (.b true))) (t 10)), m 2 11])
 .ret)), false⟩
/-- foreman/batch.Put -/
def a61 : AFn := ⟨44, [.tmp 2, .tmp 3],
 (.seq (.reg [o 2 (.mv (.c .nilsl)), o 3 (.mv (k 0))])
 (.seq (.seq (.reg [m 12 0, o 13 (.callf 48 [(t 12)]), m 4 13])
 (.seq (.reg [m 14 4, o 15 (b .neq (t 14) (k 0))])
 (.cond (t 15)
 (.seq (.reg [m 16 4, o 2 (.mv (.c .nilsl)), m 3 16])
 .ret)
 .skip)))
 (.seq (.reg [o 5 (.mv (.c .nilsl))])
 (.seq (.seq (.reg [m 17 0, o 18 (.len 1 (t 17)), o 19 (.mv (k 0))])
 (.blk 0 (.loop (.seq (.reg [o 20 (b .lss (t 19) (t 18))])
 (.seq (.cond (t 20)
 .skip
 (.exit 0))
 (.seq (.blk 1 (.seq (.reg [o 21 (.iaS 1 (t 17) (t 19)), l 22 21, m 7 22])
 (.seq (.reg [m 24 7, o 25 (.build [(.d (.i .u8 0)), .nilsl] [(0, 1, (.c (.d (.i .u8 1)))), (1, 1, (t 24))]), o 26 (.callf 103 [(t 25)]), m 23 26, o 27 (.extr (t 23) 0), o 28 (.extr (t 23) 1), m 8 27, m 9 28])
 (.reg [m 29 5, m 30 8, o 31 (.app 5 1 1 false (t 29) (t 30)), m 5 31]))))
 (.reg [o 32 (b .add (t 19) (k 1)), m 19 32])))))))
 (.seq (.reg [m 34 0, o 35 (.len 1 (t 34)), o 36 (.callf 104 [(t 35)]), o 37 (.build [(.d (.i .u8 0)), .nilsl] [(0, 1, (.c (.d (.i .u8 2)))), (1, 1, (t 36))]), o 38 (.callf 103 [(t 37)]), m 33 38, o 39 (.extr (t 33) 0), o 40 (.extr (t 33) 1), m 10 39, m 11 40])
 (.seq (.reg [m 41 5, m 42 10, o 43 (.app 5 1 1 false (t 41) (t 42)), m 2 43, o 3 (.mv (k 0))])
 .ret)))))), false⟩
/-- foreman/journal.run -/
def a62 : AFn := ⟨18, [.tmp 2],
 (.seq (.reg [o 2 (.mv (k 0))])
 (.seq (.seq (.reg [m 6 0, o 7 (.len 1 (t 6)), o 8 (.mv (k 0))])
 (.blk 0 (.loop (.seq (.reg [o 9 (b .lss (t 8) (t 7))])
 (.seq (.cond (t 9)
 .skip
 (.exit 0))
 (.seq (.blk 1 (.seq (.reg [o 10 (.iaS 1 (t 6) (t 8)), l 11 10, m 4 11])
 (.seq (.reg [m 12 4, o 13 (.callv (t 12) []), m 5 13])
 (.seq (.reg [m 14 5, o 15 (b .neq (t 14) (k 0))])
 (.cond (t 15)
 (.seq (.reg [m 16 5, m 2 16])
 .ret)
 .skip)))))
 (.reg [o 17 (b .add (t 8) (k 1)), m 8 17])))))))
 (.seq (.reg [o 2 (.mv (k 0))])
 .ret))), false⟩
/-- (*foreman/journal.Journal).put -/
def a63 : AFn := ⟨8, [.tmp 6],
 (.seq (.reg [o 3 (.box 32 (t 0)), o 4 (.box 3 (t 1)), o 5 (.box 58 (t 2)), o 6 (.mv (.c (.d .nilf)))])
 (.seq (.reg [o 7 (.mkfn (.func 105) [] [(t 3), (t 4), (t 5)]), m 6 7])
 .ret)), false⟩
/-- (*foreman/journal.Journal).Switch$1 -/
def a64 : AFn := ⟨26, [.tmp 2],
 (.seq (.reg [o 2 (.mv (k 0))])
 (.seq (.reg [l 5 0, o 6 (.nilchk (t 5)), o 7 (.fadd 1 (t 6)), o 8 (.load true 3 (t 7)), o 3 (.alloc 94 [(.d (.i .u64 0)), (.d (.i .u64 0)), (.d (.i .u8 0))]), u (.store 3 (t 3) (t 8))])
 (.seq (.reg [l 9 1, o 10 (b .sub (k 1) (t 9)), o 11 (.cvi .u8 (t 10)), o 12 (.fadd 2 (t 3)), u (.store 1 (t 12) (t 11))])
 (.seq (.reg [l 13 0, o 14 (.nilchk (t 13)), o 15 (.fadd 0 (t 14)), l 16 15, o 17 (.callf 65 [(t 16), (t 3)]), o 18 (.callv (t 17) []), m 4 18])
 (.seq (.seq (.reg [m 19 4, o 20 (b .eql (t 19) (k 0))])
 (.cond (t 20)
 (.reg [l 21 0, o 22 (.load true 3 (t 3)), o 23 (.nilchk (t 21)), o 24 (.fadd 1 (t 23)), u (.store 3 (t 24) (t 22))])
 .skip))
 (.seq (.reg [m 25 4, m 2 25])
 .ret)))))), false⟩
/-- foreman/journal.save -/
def a65 : AFn := ⟨6, [.tmp 4],
 (.seq (.reg [o 2 (.box 54 (t 0)), o 3 (.box 130 (t 1)), o 4 (.mv (.c (.d .nilf)))])
 (.seq (.reg [o 5 (.mkfn (.func 110) [] [(t 2), (t 3)]), m 4 5])
 .ret)), false⟩
/-- foreman/journal.shorten -/
def a66 : AFn := ⟨8, [.tmp 6],
 (.seq (.reg [o 3 (.box 54 (t 0)), o 4 (.box 3 (t 1)), o 5 (.box 3 (t 2)), o 6 (.mv (.c (.d .nilf)))])
 (.seq (.reg [o 7 (.mkfn (.func 112) [] [(t 3), (t 4), (t 5)]), m 6 7])
 .ret)), false⟩
/-- (*foreman/disk.Disk).Free -/
def a67 : AFn := ⟨25, [.tmp 2],
 (.seq (.reg [o 2 (.mv (k 0))])
 (.seq (.seq (.reg [m 3 0, o 4 (.callf 36 [(t 3)])])
 (.cond (t 4)
 (.seq (.reg [o 2 (.mv (k 0))])
 .ret)
 .skip))
 (.seq (.dreg 0 [⟨m 5 0, 0, false, [], none⟩, ⟨o 6 (.nilchk (t 5)), 1, false, [], none⟩, ⟨o 7 (.fadd 1 (t 6)), 2, false, [], none⟩, ⟨l 8 7, 3, false, [], none⟩, ⟨m 9 0, 4, false, [], none⟩, ⟨o 10 (.nilchk (t 9)), 5, false, [], none⟩, ⟨o 11 (.fadd 2 (t 10)), 6, false, [], none⟩, ⟨o 12 (.iaA 2 2 (t 11) (k 0)), 7, false, [], none⟩, ⟨o 13 (.fadd 0 (t 12)), 8, false, [], none⟩, ⟨l 14 13, 9, false, [], none⟩, ⟨o 15 (.len 1 (t 14)), 10, false, [], none⟩, ⟨o 16 (b .sub (t 8) (t 15)), 11, false, [], none⟩, ⟨m 17 0, 12, false, [], none⟩, ⟨o 18 (.nilchk (t 17)), 13, false, [], none⟩, ⟨o 19 (.fadd 2 (t 18)), 14, false, [], none⟩, ⟨o 20 (.iaA 2 2 (t 19) (k 1)), 15, false, [], none⟩, ⟨o 21 (.fadd 0 (t 20)), 16, false, [], none⟩, ⟨l 22 21, 17, false, [], none⟩, ⟨o 23 (.len 1 (t 22)), 18, false, [], none⟩, ⟨o 24 (b .sub (t 16) (t 23)), 19, false, [], none⟩, ⟨m 2 24, 20, false, [], none⟩])
 .ret))), false⟩
/-- (*foreman/disk.Disk).Read -/
def a68 : AFn := ⟨20, [.tmp 4],
 (.seq (.reg [o 4 (.mv (.c .nilsl))])
 (.seq (.seq (.reg [m 5 0, o 6 (.callf 36 [(t 5)]), m 7 6, mg 8 1 7 false, og 9 (.callf 114 [(t 8)]) 7 false, og 10 (.un .not (t 9)) 7 false, o 11 (.pick (t 7) (.c (.d (.b true))) (t 10))])
 (.cond (t 11)
 (.seq (.reg [o 4 (.mv (.c .nilsl))])
 .ret)
 .skip))
 (.seq (.reg [m 12 0, m 13 1, o 14 (.nilchk (t 12)), o 15 (.fadd 2 (t 14)), o 16 (.iaA 2 2 (t 15) (t 13)), o 17 (.fadd 0 (t 16)), l 18 17, o 19 (.clone 115 5 1 1 false (t 18)), m 4 19])
 .ret))), false⟩
/-- foreman/step.From -/
def a69 : AFn := ⟨22, [.tmp 2, .tmp 3],
 (.seq (.reg [o 1 (.box 49 (t 0)), o 2 (.mv (.c (.d .nilp))), o 3 (.mv (k 0))])
 (.seq (.seq (.reg [o 6 (.load true 8 (t 1)), o 7 (.callf 116 [(t 6)]), o 8 (b .neq (t 7) (k 0))])
 (.cond (t 8)
 (.seq (.reg [o 2 (.mv (.c (.d .nilp))), o 3 (.mv (k 2))])
 .ret)
 .skip))
 (.seq (.reg [o 10 (.load true 8 (t 1)), o 11 (.callf 117 [(t 10)]), m 9 11, o 12 (.extr (t 9) 0), o 13 (.extr (t 9) 1), m 4 12, m 5 13])
 (.seq (.seq (.reg [m 14 5, o 15 (b .neq (t 14) (k 0))])
 (.cond (t 15)
 (.seq (.reg [m 16 5, o 2 (.mv (.c (.d .nilp))), m 3 16])
 .ret)
 .skip))
 (.seq (.reg [o 17 (.load true 8 (t 1)), o 18 (.callf 51 [(t 17)]), m 19 4, o 20 (.build [(.d (.i .i64 0)), (.d (.i .i64 0)), (.d (.i .i64 0)), (.d (.i .i64 0)), (.d (.i .i64 0)), (.d (.i .i64 0)), .nilsl, (.d (.i .i64 0)), (.d .nilp)] [(0, 8, (t 18)), (8, 1, (t 19))]), o 21 (.box 117 (t 20)), m 2 21, o 3 (.mv (k 0))])
 .ret))))), true⟩
/-- foreman/head.Load -/
def a70 : AFn := ⟨25, [.cell 2 true 3, .tmp 3],
 (.seq (.reg [o 2 (.alloc 94 [(.d (.i .u64 0)), (.d (.i .u64 0)), (.d (.i .u8 0))]), o 3 (.mv (k 0))])
 (.seq (.seq (.reg [m 7 0, o 8 (.callf 113 [(t 7), (k 0), (k (-1))]), m 4 8])
 (.seq (.reg [m 9 4, o 10 (b .neq (t 9) (k 2))])
 (.cond (t 10)
 (.seq (.reg [o 11 (.build [(.d (.i .u64 0)), (.d (.i .u64 0)), (.d (.i .u8 0))] []), m 12 4, u (.store 3 (t 2) (t 11)), m 3 12])
 .ret)
 .skip)))
 (.seq (.reg [m 14 0, o 15 (.callf 119 [(t 14), (k 0)]), m 16 0, o 17 (.callf 119 [(t 16), (k 1)]), o 18 (.callf 118 [(t 15), (t 17)]), m 13 18, o 19 (.extr (t 13) 0), o 20 (.extr (t 13) 1), o 5 (.alloc 94 [(.d (.i .u64 0)), (.d (.i .u64 0)), (.d (.i .u8 0))]), u (.store 3 (t 5) (t 19)), m 6 20])
 (.seq (.seq (.reg [m 21 6, o 22 (.un .not (t 21))])
 (.cond (t 22)
 (.seq (.reg [o 23 (.build [(.d (.i .u64 0)), (.d (.i .u64 0)), (.d (.i .u8 0))] []), u (.store 3 (t 2) (t 23)), o 3 (.mv (k 50))])
 .ret)
 .skip))
 (.seq (.reg [o 24 (.load true 3 (t 5)), u (.store 3 (t 2) (t 24)), o 3 (.mv (k 0))])
 .ret))))), false⟩
/-- foreman/batch.Scan -/
def a71 : AFn := ⟨56, [.tmp 2, .tmp 3, .tmp 4],
 (.seq (.reg [o 2 (.mv (.c .nilsl)), o 3 (.mv (k 0)), o 4 (.mv (k 0))])
 (.seq (.reg [o 5 (.alloc 197 [.nilsl, .nilsl])])
 (.seq (.reg [o 6 (.mv (k 0))])
 (.seq (.seq (.reg [o 7 (.mv (k 0))])
 (.blk 0 (.loop (.seq (.seq (.reg [m 12 7, m 13 0, o 14 (.len 1 (t 13)), o 15 (b .lss (t 12) (t 14))])
 (.cond (t 15)
 .skip
 (.exit 0)))
 (.blk 1 (.seq (.reg [m 17 0, m 18 7, o 19 (.slSl 1 (t 17) (some (t 18)) none none), o 20 (.callf 120 [(t 19)]), m 16 20, o 21 (.extr (t 16) 0), o 22 (.extr (t 16) 1), o 23 (.extr (t 16) 2), o 8 (.alloc 183 [(.d (.i .u8 0)), .nilsl]), u (.store 2 (t 8) (t 21)), m 9 22, m 10 23])
 (.seq (.seq (.reg [m 24 10, o 25 (b .neq (t 24) (k 0))])
 (.cond (t 25)
 (.seq (.reg [o 26 (.fadd 0 (t 5)), l 27 26, m 28 6, m 29 10, m 2 27, m 3 28, m 4 29])
 .ret)
 .skip))
 (.seq (.reg [m 30 7, m 31 9, o 32 (b .add (t 30) (t 31)), m 7 32])
 (.seq (.reg [o 34 (.load true 2 (t 8)), o 35 (.callf 121 [(t 5), (t 34)]), m 33 35, o 36 (.extr (t 33) 0), o 37 (.extr (t 33) 1), m 11 36, m 10 37])
 (.seq (.seq (.reg [m 38 10, o 39 (b .neq (t 38) (k 0))])
 (.cond (t 39)
 (.seq (.reg [o 40 (.fadd 0 (t 5)), l 41 40, m 42 6, m 43 10, m 2 41, m 3 42, m 4 43])
 .ret)
 .skip))
 (.seq (.reg [m 44 11])
 (.cond (t 44)
 (.reg [m 45 7, m 6 45])
 .skip))))))))))))
 (.seq (.seq (.reg [o 46 (.fadd 1 (t 5)), l 47 46, o 48 (.len 1 (t 47)), o 49 (b .gtr (t 48) (k 0))])
 (.cond (t 49)
 (.seq (.reg [o 50 (.fadd 0 (t 5)), l 51 50, m 52 6, m 2 51, m 3 52, o 4 (.mv (k 32))])
 .ret)
 .skip))
 (.seq (.reg [o 53 (.fadd 0 (t 5)), l 54 53, m 55 6, m 2 54, m 3 55, o 4 (.mv (k 0))])
 .ret)))))), false⟩
/-- foreman/replay.entries -/
def a72 : AFn := ⟨4, [.tmp 2],
 (.seq (.reg [o 1 (.box 104 (t 0)), o 2 (.mv (.c (.d .nilf)))])
 (.seq (.reg [o 3 (.mkfn (.func 122) [] [(t 1)]), m 2 3])
 .ret)), true⟩
/-- foreman/replay.next -/
def a73 : AFn := ⟨44, [.tmp 4],
 (.seq (.reg [o 3 (.box 112 (t 1)), o 4 (.mv (.c (.d .nilp)))])
 (.seq (.seq (.reg [o 8 (.fadd 0 (t 3)), l 9 8, o 10 (b .eql (t 9) (.c (.d (.i .u8 2))))])
 (.cond (t 10)
 (.seq (.reg [o 12 (.fadd 11 (t 3)), o 13 (.load true 8 (t 12)), o 14 (.callf 69 [(t 13)]), m 11 14, o 15 (.extr (t 11) 0), o 16 (.extr (t 11) 1), m 5 15, m 6 16])
 (.seq (.seq (.dreg 0 [⟨m 17 6, 0, false, [], none⟩, ⟨o 18 (b .neq (t 17) (k 0)), 1, false, [], none⟩, ⟨m 19 18, 2, false, [], none⟩, ⟨mg 20 0 19 false, 3, false, [], none⟩, ⟨og 21 (.bin .neq .ptr (t 20) (.c (.d .nilp))) 19 false, 4, false, [], none⟩, ⟨mg 22 21 19 false, 5, false, [], none⟩, ⟨mg 23 0 22 true, 6, false, [], none⟩, ⟨og 24 (.callf 32 [(t 23)]) 22 true, 7, true, [], none⟩, ⟨og 25 (.fld 0 true 5 (t 24)) 22 true, 8, false, [7], none⟩, ⟨og 26 (.fadd 11 (t 3)) 22 true, 9, false, [], none⟩, ⟨og 27 (.fadd 0 (t 26)) 22 true, 10, false, [], none⟩, ⟨og 28 (.load true 5 (t 27)) 22 true, 11, false, [], none⟩, ⟨og 29 (.bin .neq (.flat [.i, .i, .i, .i, .i]) (t 25) (t 28)) 22 true, 12, false, [7], none⟩, ⟨og 30 (.pick (t 22) (t 29) (.c (.d (.b false)))) 19 false, 13, false, [7], none⟩, ⟨o 31 (.pick (t 19) (.c (.d (.b true))) (t 30)), 14, false, [7], none⟩])
 (.cond (t 31)
 (.seq (.reg [o 4 (.mv (.c (.d .nilp)))])
 .ret)
 .skip))
 (.seq (.reg [m 32 5, m 4 32])
 .ret)))
 .skip))
 (.seq (.seq (.reg [m 33 0, o 34 (.fadd 2 (t 3)), o 35 (.load true 9 (t 34)), o 36 (.callf 27 [(t 33), (t 35)]), o 7 (.alloc 42 [(.d (.i .i64 0)), (.d (.i .i64 0)), (.d (.i .i64 0)), .nilsl, (.d (.i .u8 0))]), u (.store 5 (t 7) (t 36))])
 (.seq (.reg [o 37 (.fadd 2 (t 3)), o 38 (.load true 9 (t 37)), o 39 (.fadd 0 (t 7)), l 40 39, o 41 (.callf 28 [(t 38), (t 40)]), o 42 (.un .not (t 41))])
 (.cond (t 42)
 (.seq (.reg [o 4 (.mv (.c (.d .nilp)))])
 .ret)
 .skip)))
 (.seq (.reg [m 43 0, m 4 43])
 .ret)))), true⟩
/-- foreman/replay.rest -/
def a74 : AFn := ⟨20, [.tmp 2, .tmp 3],
 (.seq (.reg [o 1 (.box 112 (t 0)), o 2 (.mv (.c .nilsl)), o 3 (.mv (k 0))])
 (.seq (.seq (.reg [o 4 (.fadd 0 (t 1)), l 5 4])
 (.blk 0 (.seq (.reg [o 7 (b .eql (t 5) (.c (.d (.i .u8 1)))), m 6 7])
 (.cond (t 6)
 (.seq (.reg [o 8 (.fadd 2 (t 1)), o 9 (.load true 9 (t 8)), o 10 (.callf 124 [(t 9)]), o 11 (.extr (t 10) 0), o 12 (.extr (t 10) 1), m 2 11, m 3 12])
 .ret)
 (.seq (.reg [o 14 (b .eql (t 5) (.c (.d (.i .u8 2)))), m 13 14])
 (.cond (t 13)
 (.seq (.reg [o 15 (.fadd 11 (t 1)), o 16 (.load true 8 (t 15)), o 17 (.callf 125 [(t 16)]), o 18 (.extr (t 17) 0), o 19 (.extr (t 17) 1), m 2 18, m 3 19])
 .ret)
 .skip))))))
 (.seq (.reg [o 2 (.mv (.c .nilsl)), o 3 (.mv (k 2))])
 .ret))), false⟩
/-- foreman/batch.Cut -/
def a75 : AFn := ⟨18, [.tmp 2],
 (.seq (.reg [o 2 (.mv (.c .nilsl))])
 (.seq (.reg [o 3 (.alloc 84 [.nilsl])])
 (.seq (.seq (.reg [m 5 0, o 6 (.clone 115 5 1 1 false (t 5)), o 7 (.callf 126 [(t 6), (k 4096)])])
 (.blk 0 (.rfun (t 7) [8] (.reg [m 4 8]) (.blk 1 (.reg [l 9 3, m 10 4, o 11 (.bsl 58 1 1 [.nilsl] [(0, 1, (t 10))]), o 12 (.app 58 1 24 false (t 9) (t 11)), u (.store 1 (t 3) (t 12))])))))
 (.seq (.seq (.reg [l 13 3, o 14 (.len 1 (t 13)), o 15 (b .eql (t 14) (k 0))])
 (.cond (t 15)
 (.seq (.reg [o 16 (.bsl 58 1 1 [.nilsl] [(0, 1, (.c .nilsl))]), m 2 16])
 .ret)
 .skip))
 (.seq (.reg [l 17 3, m 2 17])
 .ret))))), false⟩
/-- foreman/replay.ahead -/
def a76 : AFn := ⟨22, [.tmp 2],
 (.seq (.reg [o 1 (.box 112 (t 0)), o 2 (.mv (.c .nilsl))])
 (.seq (.reg [o 5 (.fadd 0 (t 1)), l 6 5, o 7 (.bsl 5 1 1 [(.d (.i .u8 0))] [(0, 1, (t 6))]), m 3 7])
 (.seq (.seq (.reg [o 8 (.mv (k 0))])
 (.blk 0 (.loop (.seq (.reg [o 9 (b .lss (t 8) (k 8))])
 (.seq (.cond (t 9)
 .skip
 (.exit 0))
 (.seq (.blk 1 (.seq (.reg [m 10 8, m 4 10])
 (.reg [m 11 3, o 12 (.fadd 1 (t 1)), l 13 12, m 14 4, o 15 (b .mul (k 8) (t 14)), o 16 (b .shr (t 13) (t 15)), o 17 (.cvi .u8 (t 16)), o 18 (.bsl 5 1 1 [(.d (.i .u8 0))] [(0, 1, (t 17))]), o 19 (.app 5 1 1 false (t 11) (t 18)), m 3 19])))
 (.reg [o 20 (b .add (t 8) (k 1)), m 8 20])))))))
 (.seq (.reg [m 21 3, m 2 21])
 .ret)))), false⟩
/-- foreman/batch.wrong$1 -/
def a77 : AFn := ⟨6, [.tmp 2],
 (.seq (.reg [o 2 (.mv (.c (.d (.b false))))])
 (.seq (.reg [m 3 0, o 4 (.len 1 (t 3)), o 5 (b .gtr (t 4) (k 4096)), m 2 5])
 .ret)), false⟩
/-- slices.ContainsFunc[[][]byte,[]byte] -/
def a78 : AFn := ⟨9, [.tmp 4],
 (.seq (.reg [o 4 (.mv (.c (.d (.b false))))])
 (.seq (.reg [m 5 0, m 6 1, o 7 (.callf 127 [(t 5), (t 6)]), o 8 (b .geq (t 7) (k 0)), m 4 8])
 .ret)), false⟩
/-- foreman/value.Copy -/
def a81 : AFn := ⟨24, [.cell 2 true 4],
 (.seq (.reg [o 1 (.box 24 (t 0)), o 2 (.alloc 24 [(.d (.i .u8 0)), (.d (.i .i64 0)), (.d (.s [])), .nilsl])])
 (.seq (.reg [o 6 (.fadd 3 (t 1)), l 7 6, m 3 7])
 (.seq (.reg [o 8 (.fadd 3 (t 1)), u (.store 1 (t 8) (.c .nilsl))])
 (.seq (.seq (.reg [m 9 3, o 10 (.len 1 (t 9)), o 11 (.mv (k 0))])
 (.blk 0 (.loop (.seq (.reg [o 12 (b .lss (t 11) (t 10))])
 (.seq (.cond (t 12)
 .skip
 (.exit 0))
 (.seq (.blk 1 (.seq (.reg [o 13 (.iaS 4 (t 9) (t 11)), o 14 (.load true 4 (t 13)), o 5 (.alloc 24 [(.d (.i .u8 0)), (.d (.i .i64 0)), (.d (.s [])), .nilsl]), u (.store 4 (t 5) (t 14))])
 (.dreg 1 [⟨o 17 (.load true 4 (t 5)), 2, false, [], none⟩, ⟨o 18 (.callf 81 [(t 17)]), 3, true, [], none⟩, ⟨o 15 (.fadd 3 (t 1)), 0, false, [], none⟩, ⟨l 16 15, 1, false, [], none⟩, ⟨o 19 (.bsl 24 4 1 [(.d (.i .u8 0)), (.d (.i .i64 0)), (.d (.s [])), .nilsl] [(0, 4, (t 18))]), 4, false, [], (some 0)⟩, ⟨o 20 (.app 24 4 56 false (t 16) (t 19)), 5, true, [], none⟩, ⟨o 21 (.fadd 3 (t 1)), 6, false, [5, 3], none⟩, ⟨u (.store 1 (t 21) (t 20)), 7, true, [], none⟩])))
 (.reg [o 22 (b .add (t 11) (k 1)), m 11 22])))))))
 (.seq (.reg [o 23 (.load true 4 (t 1)), u (.store 4 (t 2) (t 23))])
 .ret))))), false⟩
/-- (*foreman/order.Order).none -/
def a82 : AFn := ⟨12, [.tmp 2],
 (.seq (.reg [o 2 (.mv (.c (.d (.b false))))])
 (.seq (.reg [m 3 0, o 4 (.bin .eql .ptr (t 3) (.c (.d .nilp))), m 5 4, mg 6 0 5 false, og 7 (.nilchk (t 6)) 5 false, og 8 (.fadd 0 (t 7)) 5 false, lg 9 8 5 false, og 10 (.bin .eql .ptr (t 9) (.c (.d .nilp))) 5 false, o 11 (.pick (t 5) (.c (.d (.b true))) (t 10)), m 2 11])
 .ret)), false⟩
/-- (*foreman/graph.Graph).Copy -/
def a83 : AFn := ⟨40, [.tmp 2],
 (.seq (.reg [o 2 (.mv (.c (.d .nilp)))])
 (.seq (.seq (.reg [m 6 0, o 7 (.callf 128 [(t 6)])])
 (.cond (t 7)
 (.seq (.reg [o 2 (.mv (.c (.d .nilp)))])
 .ret)
 .skip))
 (.seq (.reg [m 8 0, o 9 (.nilchk (t 8)), o 10 (.fadd 1 (t 9)), l 11 10, o 12 (.clone 129 214 2 48 true (t 11)), o 13 (.build [(.d (.b false)), .nilsl] [(0, 1, (.c (.d (.b true)))), (1, 1, (t 12))]), o 14 (.box 216 (t 13)), m 3 14])
 (.seq (.seq (.reg [m 15 3, o 16 (.nilchk (t 15)), o 17 (.fadd 1 (t 16)), l 18 17, o 19 (.len 1 (t 18)), o 20 (.mv (k 0))])
 (.blk 0 (.loop (.seq (.reg [o 21 (b .lss (t 20) (t 19))])
 (.seq (.cond (t 21)
 .skip
 (.exit 0))
 (.seq (.blk 1 (.seq (.reg [m 22 20, o 23 (.iaS 2 (t 18) (t 20)), o 24 (.load true 2 (t 23)), o 5 (.alloc 214 [.nilsl, .nilsl]), m 4 22, u (.store 2 (t 5) (t 24))])
 (.dreg 0 [⟨o 30 (.fadd 0 (t 5)), 5, false, [], none⟩, ⟨l 31 30, 6, false, [], none⟩, ⟨o 32 (.clone 80 3 1 8 true (t 31)), 7, true, [], none⟩, ⟨o 33 (.fadd 1 (t 5)), 8, false, [], none⟩, ⟨l 34 33, 9, false, [], none⟩, ⟨o 35 (.clone 80 3 1 8 true (t 34)), 10, true, [], none⟩, ⟨m 25 3, 0, false, [], none⟩, ⟨o 26 (.nilchk (t 25)), 1, false, [], none⟩, ⟨o 27 (.fadd 1 (t 26)), 2, false, [], none⟩, ⟨l 28 27, 3, false, [], none⟩, ⟨m 29 4, 4, false, [], none⟩, ⟨o 36 (.build [.nilsl, .nilsl] [(0, 1, (t 32)), (1, 1, (t 35))]), 11, false, [10, 7], none⟩, ⟨o 37 (.iaS 2 (t 28) (t 29)), 12, false, [10, 7], none⟩, ⟨u (.store 2 (t 37) (t 36)), 13, true, [], none⟩])))
 (.reg [o 38 (b .add (t 20) (k 1)), m 20 38])))))))
 (.seq (.reg [m 39 3, m 2 39])
 .ret))))), true⟩
/-- foreman/op.of -/
def a84 : AFn := ⟨9, [.tmp 2],
 (.seq (.reg [o 2 (.mv (.c (.d (.i .u8 0))))])
 (.seq (.seq (.reg [m 3 0, o 4 (.cvi .i64 (t 3)), o 5 (b .geq (t 4) (k 6))])
 (.cond (t 5)
 (.seq (.reg [o 2 (.mv (.c (.d (.i .u8 0))))])
 .ret)
 .skip))
 (.seq (.reg [m 6 0, o 7 (.iaA 6 1 (.c (.glob 0 0)) (t 6)), l 8 7, m 2 8])
 .ret))), false⟩
/-- foreman/op.either -/
def a85 : AFn := ⟨10, [.tmp 6],
 (.seq (.reg [o 6 (.mv (.c (.d (.b false))))])
 (.seq (.seq (.reg [m 7 0])
 (.cond (t 7)
 (.seq (.reg [m 8 1, m 6 8])
 .ret)
 .skip))
 (.seq (.reg [m 9 2, m 6 9])
 .ret))), false⟩
/-- foreman/frag.Right -/
def a86 : AFn := ⟨11, [.tmp 2],
 (.seq (.reg [o 2 (.mv (.c (.d (.b false))))])
 (.seq (.reg [m 3 0, o 4 (.len 1 (t 3)), o 5 (b .leq (t 4) (k 40)), m 6 5, mg 7 0 6 true, og 8 (.callf 130 [(t 7), (.c (.d (.fn (.func 131) [] [])))]) 6 true, og 9 (.un .not (t 8)) 6 true, o 10 (.pick (t 6) (t 9) (.c (.d (.b false)))), m 2 10])
 .ret)), false⟩
/-- foreman/op.ID -/
def a87 : AFn := ⟨18, [.tmp 2],
 (.seq (.reg [o 2 (.mv (.c (.d (.b false))))])
 (.seq (.reg [o 3 (.mv (.c (.d (.fn (.func 133) [] []))))])
 (.seq (.reg [m 4 0, o 5 (.len 0 (t 4)), o 6 (b .geq (t 5) (k 1)), m 7 6, mg 8 0 7 true, og 9 (.len 0 (t 8)) 7 true, og 10 (b .leq (t 9) (k 400)) 7 true, o 11 (.pick (t 7) (t 10) (.c (.d (.b false)))), m 12 11, mg 13 0 12 true, mg 14 3 12 true, og 15 (.callf 134 [(t 13), (t 14)]) 12 true, og 16 (.un .not (t 15)) 12 true, o 17 (.pick (t 12) (t 16) (.c (.d (.b false)))), m 2 17])
 .ret))), false⟩
/-- foreman/value.Right -/
def a88 : AFn := ⟨7, [.tmp 2],
 (.seq (.reg [o 1 (.box 24 (t 0)), o 2 (.mv (.c (.d (.b false))))])
 (.seq (.reg [o 3 (.build [(.d (.i .i64 0))] [(0, 1, (k 200))]), o 4 (.box 224 (t 3)), o 5 (.load true 4 (t 1)), o 6 (.callf 135 [(t 4), (t 5), (k 6)]), m 2 6])
 .ret)), false⟩
/-- foreman/value.Same -/
def a89 : AFn := ⟨31, [.tmp 4],
 (.seq (.reg [o 2 (.box 24 (t 0)), o 3 (.box 24 (t 1)), o 4 (.mv (.c (.d (.b false))))])
 (.seq (.reg [o 5 (.fadd 0 (t 2)), l 6 5, o 7 (.fadd 0 (t 3)), l 8 7, o 9 (b .eql (t 6) (t 8)), m 10 9, og 11 (.fadd 1 (t 2)) 10 true, lg 12 11 10 true, og 13 (.fadd 1 (t 3)) 10 true, lg 14 13 10 true, og 15 (b .eql (t 12) (t 14)) 10 true, o 16 (.pick (t 10) (t 15) (.c (.d (.b false)))), m 17 16, og 18 (.fadd 2 (t 2)) 17 true, lg 19 18 17 true, og 20 (.fadd 2 (t 3)) 17 true, lg 21 20 17 true, og 22 (b .eql (t 19) (t 21)) 17 true, o 23 (.pick (t 17) (t 22) (.c (.d (.b false)))), m 24 23, og 25 (.fadd 3 (t 2)) 24 true, lg 26 25 24 true, og 27 (.fadd 3 (t 3)) 24 true, lg 28 27 24 true, og 29 (.callf 136 [(t 26), (t 28), (.c (.d (.fn (.func 89) [] [])))]) 24 true, o 30 (.pick (t 24) (t 29) (.c (.d (.b false)))), m 4 30])
 .ret)), false⟩
/-- (*foreman/step.Machine).grown -/
def a90 : AFn := ⟨66, [.cell 10 true 8, .tmp 11],
 (.seq (.reg [o 10 (.alloc 49 [(.d (.i .i64 0)), (.d (.i .i64 0)), (.d (.i .i64 0)), (.d (.i .i64 0)), (.d (.i .i64 0)), (.d (.i .i64 0)), .nilsl, (.d (.i .i64 0))]), o 11 (.mv (k 0))])
 (.seq (.seq (.dreg 0 [⟨m 15 0, 0, false, [], none⟩, ⟨o 16 (.nilchk (t 15)), 1, false, [], none⟩, ⟨o 17 (.fadd 0 (t 16)), 2, false, [], none⟩, ⟨o 18 (.fadd 0 (t 17)), 3, false, [], none⟩, ⟨o 19 (.load true 5 (t 18)), 4, false, [], none⟩, ⟨m 20 0, 5, false, [], none⟩, ⟨o 21 (.nilchk (t 20)), 6, false, [], none⟩, ⟨o 22 (.fadd 0 (t 21)), 7, false, [], none⟩, ⟨o 23 (.fadd 6 (t 22)), 8, false, [], none⟩, ⟨l 24 23, 9, false, [], none⟩, ⟨m 25 2, 10, false, [], none⟩, ⟨m 26 3, 11, false, [], none⟩, ⟨m 27 4, 12, false, [], none⟩, ⟨o 28 (.callf 137 [(t 19), (t 24), (t 25), (t 26), (t 27)]), 13, true, [], none⟩, ⟨m 12 28, 14, false, [13], none⟩])
 (.seq (.reg [m 29 12, o 30 (b .neq (t 29) (k 0))])
 (.cond (t 30)
 (.seq (.reg [m 31 0, o 32 (.nilchk (t 31)), o 33 (.fadd 0 (t 32)), o 34 (.load true 8 (t 33)), m 35 12, u (.store 8 (t 10) (t 34)), m 11 35])
 .ret)
 .skip)))
 (.seq (.reg [m 37 0, o 38 (.nilchk (t 37)), o 39 (.fadd 0 (t 38)), o 40 (.load true 8 (t 39)), m 41 1, m 42 2, m 43 4, o 44 (.callf 138 [(t 40), (t 41), (t 42), (t 43)]), m 36 44, o 45 (.extr (t 36) 0), o 46 (.extr (t 36) 1), m 13 45, m 14 46])
 (.seq (.seq (.reg [m 47 14, o 48 (b .neq (t 47) (k 0))])
 (.cond (t 48)
 (.seq (.reg [m 49 0, o 50 (.nilchk (t 49)), o 51 (.fadd 0 (t 50)), o 52 (.load true 8 (t 51)), m 53 14, u (.store 8 (t 10) (t 52)), m 11 53])
 .ret)
 .skip))
 (.seq (.dreg 0 [⟨m 54 0, 0, false, [], none⟩, ⟨o 55 (.nilchk (t 54)), 1, false, [], none⟩, ⟨o 56 (.fadd 8 (t 55)), 2, false, [], none⟩, ⟨l 57 56, 3, false, [], none⟩, ⟨m 58 0, 4, false, [], none⟩, ⟨o 59 (.nilchk (t 58)), 5, false, [], none⟩, ⟨o 60 (.fadd 0 (t 59)), 6, false, [], none⟩, ⟨o 61 (.load true 8 (t 60)), 7, false, [], none⟩, ⟨m 62 13, 8, false, [], none⟩, ⟨o 63 (.callf 139 [(t 57), (t 61), (t 62)]), 9, true, [], none⟩, ⟨o 64 (.extr (t 63) 0), 10, false, [9], none⟩, ⟨o 65 (.extr (t 63) 1), 11, false, [9], none⟩, ⟨u (.store 8 (t 10) (t 64)), 12, true, [], none⟩, ⟨m 11 65, 13, false, [12, 9], none⟩])
 .ret))))), false⟩
/-- (*foreman/step.Machine).settle -/
def a91 : AFn := ⟨18, [],
 (.seq (.reg [o 3 (.box 49 (t 1))])
 (.seq (.reg [m 4 0, o 5 (.load true 8 (t 3)), o 6 (.callf 140 [(t 5)]), o 7 (.nilchk (t 4)), o 8 (.fadd 0 (t 7)), u (.store 8 (t 8) (t 6))])
 (.dreg 0 [⟨m 9 0, 0, false, [], none⟩, ⟨o 10 (.nilchk (t 9)), 1, false, [], none⟩, ⟨o 11 (.fadd 8 (t 10)), 2, false, [], none⟩, ⟨l 12 11, 3, false, [], none⟩, ⟨m 13 0, 4, false, [], none⟩, ⟨o 14 (.nilchk (t 13)), 5, false, [], none⟩, ⟨o 15 (.fadd 0 (t 14)), 6, false, [], none⟩, ⟨o 16 (.load true 8 (t 15)), 7, false, [], none⟩, ⟨o 17 (.callf 141 [(t 12), (t 16)]), 8, true, [], none⟩]))), false⟩
/-- foreman/flow.Stand -/
def a92 : AFn := ⟨37, [.tmp 4, .tmp 5],
 (.seq (.reg [o 2 (.box 49 (t 0)), o 4 (.mv (.c (.d (.i .u8 0)))), o 5 (.mv (.c (.d (.b false))))])
 (.seq (.seq (.reg [m 9 1, o 10 (b .lss (t 9) (k 0)), m 11 10, mg 12 1 11 false, og 13 (.fadd 5 (t 2)) 11 false, lg 14 13 11 false, og 15 (b .geq (t 12) (t 14)) 11 false, o 16 (.pick (t 11) (.c (.d (.b true))) (t 15))])
 (.cond (t 16)
 (.seq (.reg [o 4 (.mv (.c (.d (.i .u8 0)))), o 5 (.mv (.c (.d (.b false))))])
 .ret)
 .skip))
 (.seq (.reg [o 17 (.load true 8 (t 2)), m 18 1, o 19 (.callf 142 [(t 17), (t 18), (k (-1))]), m 6 19])
 (.seq (.seq (.reg [o 20 (.bsl 5 1 2 [(.d (.i .u8 0))] [(0, 1, (.c (.d (.i .u8 5)))), (1, 1, (.c (.d (.i .u8 6))))]), o 21 (.len 1 (t 20)), o 22 (.mv (k 0))])
 (.blk 0 (.loop (.seq (.reg [o 23 (b .lss (t 22) (t 21))])
 (.seq (.cond (t 23)
 .skip
 (.exit 0))
 (.seq (.blk 1 (.seq (.reg [o 24 (.iaS 1 (t 20) (t 22)), l 25 24, m 8 25])
 (.seq (.reg [m 26 6, m 27 8, o 28 (.callf 145 [(t 27)]), o 29 (.callf 144 [(t 28)]), o 30 (.callf 143 [(t 26), (t 29)]), o 31 (.un .not (t 30))])
 (.cond (t 31)
 (.seq (.reg [m 32 8, m 4 32, o 5 (.mv (.c (.d (.b true))))])
 .ret)
 .skip))))
 (.reg [o 33 (b .add (t 22) (k 1)), m 22 33])))))))
 (.seq (.seq (.reg [m 34 6, o 35 (.callf 145 [(.c (.d (.i .u8 4)))]), o 36 (.callf 143 [(t 34), (t 35)])])
 (.cond (t 36)
 (.seq (.reg [o 4 (.mv (.c (.d (.i .u8 4)))), o 5 (.mv (.c (.d (.b true))))])
 .ret)
 .skip))
 (.seq (.reg [o 4 (.mv (.c (.d (.i .u8 2)))), o 5 (.mv (.c (.d (.b true))))])
 .ret)))))), false⟩
/-- (*foreman/step.Machine).find -/
def a93 : AFn := ⟨48, [.tmp 6, .cell 7 true 5],
 (.seq (.reg [o 6 (.mv (k 0)), o 7 (.alloc 42 [(.d (.i .i64 0)), (.d (.i .i64 0)), (.d (.i .i64 0)), .nilsl, (.d (.i .u8 0))])])
 (.seq (.reg [m 11 0, o 12 (.nilchk (t 11)), o 13 (.fadd 0 (t 12)), o 14 (.load true 8 (t 13)), m 15 1, o 16 (.callf 100 [(t 14), (t 15)]), m 10 16, o 17 (.extr (t 10) 0), o 18 (.extr (t 10) 1), m 8 17, m 9 18])
 (.seq (.blk 0 (.seq (.reg [m 20 9, o 21 (.un .not (t 20)), m 19 21])
 (.cond (t 19)
 (.seq (.reg [o 22 (.callf 53 [(k 10)]), o 6 (.mv (k 0)), u (.store 5 (t 7) (t 22))])
 .ret)
 (.seq (.reg [m 24 0, o 25 (.nilchk (t 24)), o 26 (.fadd 0 (t 25)), o 27 (.fadd 6 (t 26)), l 28 27, m 29 8, o 30 (.iaS 16 (t 28) (t 29)), o 31 (.fadd 9 (t 30)), l 32 31, m 33 2, o 34 (b .neq (t 32) (t 33)), m 23 34])
 (.cond (t 23)
 (.seq (.dreg 0 [⟨m 35 0, 0, false, [], none⟩, ⟨o 36 (.nilchk (t 35)), 1, false, [], none⟩, ⟨o 37 (.fadd 0 (t 36)), 2, false, [], none⟩, ⟨o 38 (.fadd 6 (t 37)), 3, false, [], none⟩, ⟨l 39 38, 4, false, [], none⟩, ⟨m 40 8, 5, false, [], none⟩, ⟨o 41 (.iaS 16 (t 39) (t 40)), 6, false, [], none⟩, ⟨o 42 (.fadd 9 (t 41)), 7, false, [], none⟩, ⟨l 43 42, 8, false, [], none⟩, ⟨o 44 (.build [(.d (.i .i64 0)), (.d (.i .i64 0)), (.d (.i .i64 0)), .nilsl, (.d (.i .u8 0))] [(0, 1, (k 11)), (4, 1, (t 43))]), 9, false, [], none⟩, ⟨o 6 (.mv (k 0)), 10, false, [], none⟩, ⟨u (.store 5 (t 7) (t 44)), 11, true, [], none⟩])
 .ret)
 .skip)))))
 (.seq (.reg [m 45 8, m 46 2, o 47 (.build [(.d (.i .i64 0)), (.d (.i .i64 0)), (.d (.i .i64 0)), .nilsl, (.d (.i .u8 0))] [(4, 1, (t 46))]), m 6 45, u (.store 5 (t 7) (t 47))])
 .ret)))), false⟩
/-- foreman/fan.Input -/
def a94 : AFn := ⟨68, [.tmp 4, .tmp 5],
 (.seq (.reg [o 4 (.mv (.c .nilsl)), o 5 (.mv (.c (.d (.b false))))])
 (.seq (.seq (.reg [m 12 0, m 13 1, o 14 (.callf 146 [(t 12), (t 13)]), o 15 (.un .not (t 14))])
 (.cond (t 15)
 (.seq (.reg [o 4 (.mv (.c .nilsl)), o 5 (.mv (.c (.d (.b false))))])
 .ret)
 .skip))
 (.seq (.reg [m 16 0, m 17 1, o 18 (.iaS 16 (t 16) (t 17)), o 19 (.load true 16 (t 18)), o 6 (.alloc 83 [(.d (.s [])), (.d (.s [])), (.d (.i .u8 0)), (.d (.i .i64 0)), (.d (.i .i64 0)), (.d (.i .i64 0)), .nilsl, (.d (.i .i64 0)), (.d (.i .i64 0)), (.d (.i .u8 0)), (.d (.i .i64 0)), (.d (.i .i64 0)), (.d (.i .u8 0)), (.d (.i .i64 0)), (.d (.s [])), .nilsl]), u (.store 16 (t 6) (t 19))])
 (.seq (.reg [o 7 (.mv (.c .nilsl))])
 (.seq (.seq (.reg [o 20 (.fadd 2 (t 6)), l 21 20])
 (.blk 0 (.seq (.reg [o 23 (b .eql (t 21) (.c (.d (.i .u8 2)))), m 22 23])
 (.cond (t 22)
 (.seq (.reg [m 25 0, o 26 (.load true 16 (t 6)), o 27 (.callf 147 [(t 25), (t 26)]), m 24 27, o 28 (.extr (t 24) 0), o 29 (.extr (t 24) 1), o 8 (.alloc 24 [(.d (.i .u8 0)), (.d (.i .i64 0)), (.d (.s [])), .nilsl]), u (.store 4 (t 8) (t 28)), m 9 29])
 (.seq (.seq (.reg [m 30 9, o 31 (.un .not (t 30))])
 (.cond (t 31)
 (.seq (.reg [o 4 (.mv (.c .nilsl)), o 5 (.mv (.c (.d (.b false))))])
 .ret)
 .skip))
 (.reg [m 32 7, o 33 (.load true 4 (t 8)), o 34 (.bsl 24 4 1 [(.d (.i .u8 0)), (.d (.i .i64 0)), (.d (.s [])), .nilsl] [(0, 4, (t 33))]), o 35 (.app 24 4 56 false (t 32) (t 34)), m 7 35])))
 (.seq (.reg [o 37 (b .eql (t 21) (.c (.d (.i .u8 0)))), m 36 37])
 (.cond (t 36)
 .skip
 (.seq (.reg [o 4 (.mv (.c .nilsl)), o 5 (.mv (.c (.d (.b false))))])
 .ret)))))))
 (.seq (.seq (.reg [o 38 (.fadd 6 (t 6)), l 39 38, o 40 (.len 1 (t 39)), o 41 (.mv (k 0))])
 (.blk 1 (.loop (.seq (.reg [o 42 (b .lss (t 41) (t 40))])
 (.seq (.cond (t 42)
 .skip
 (.exit 1))
 (.seq (.blk 2 (.seq (.reg [o 43 (.iaS 1 (t 39) (t 41)), l 44 43, m 11 44])
 (.seq (.seq (.reg [m 45 0, m 46 11, o 47 (.callf 146 [(t 45), (t 46)]), o 48 (.un .not (t 47)), m 49 48, mg 50 0 49 false, mg 51 11 49 false, og 52 (.iaS 16 (t 50) (t 51)) 49 false, og 53 (.fadd 9 (t 52)) 49 false, lg 54 53 49 false, og 55 (b .neq (t 54) (.c (.d (.i .u8 4)))) 49 false, o 56 (.pick (t 49) (.c (.d (.b true))) (t 55))])
 (.cond (t 56)
 (.seq (.reg [o 4 (.mv (.c .nilsl)), o 5 (.mv (.c (.d (.b false))))])
 .ret)
 .skip))
 (.reg [m 57 7, m 58 0, m 59 11, o 60 (.iaS 16 (t 58) (t 59)), o 61 (.fadd 12 (t 60)), o 62 (.load true 4 (t 61)), o 63 (.callf 81 [(t 62)]), o 64 (.bsl 24 4 1 [(.d (.i .u8 0)), (.d (.i .i64 0)), (.d (.s [])), .nilsl] [(0, 4, (t 63))]), o 65 (.app 24 4 56 false (t 57) (t 64)), m 7 65]))))
 (.reg [o 66 (b .add (t 41) (k 1)), m 41 66])))))))
 (.seq (.reg [m 67 7, m 4 67, o 5 (.mv (.c (.d (.b true))))])
 .ret))))))), false⟩
/-- foreman/ident.Parse -/
def a98 : AFn := ⟨39, [.cell 2 true 2, .cell 3 false 1],
 (.seq (.reg [o 2 (.alloc 173 [(.d (.i .i64 0)), .nilsl]), o 3 (.alloc 4 [(.d (.b false))])])
 (.seq (.reg [o 4 (.alloc 173 [(.d (.i .i64 0)), .nilsl])])
 (.seq (.reg [o 5 (.alloc 4 [(.d (.b false))]), u (.store 1 (t 5) (.c (.d (.b true))))])
 (.seq (.seq (.reg [m 9 0, o 10 (.callf 150 [(t 9), (.c (.d (.s [47])))])])
 (.blk 0 (.rfun (t 10) [11] (.reg [m 6 11]) (.blk 1 (.seq (.seq (.reg [l 12 5])
 (.cond (t 12)
 (.seq (.reg [u (.store 1 (t 5) (.c (.d (.b false))))])
 (.seq (.seq (.reg [m 13 6, o 14 (.callf 151 [(t 13)]), o 15 (.fadd 0 (t 4)), u (.store 1 (t 15) (t 14))])
 (.seq (.reg [o 16 (.fadd 0 (t 4)), l 17 16, o 18 (b .eql (t 17) (k (-1)))])
 (.cond (t 18)
 (.seq (.reg [o 19 (.build [(.d (.i .i64 0)), .nilsl] []), u (.store 2 (t 2) (t 19)), u (.store 1 (t 3) (.c (.d (.b false))))])
 .ret)
 .skip)))
 (.exit 1)))
 .skip))
 (.seq (.reg [m 21 6, o 22 (.callf 152 [(t 21)]), m 20 22, o 23 (.extr (t 20) 0), o 24 (.extr (t 20) 1), o 7 (.alloc 246 [(.d (.s [])), (.d (.i .i64 0))]), u (.store 2 (t 7) (t 23)), m 8 24])
 (.seq (.seq (.reg [m 25 8, o 26 (.un .not (t 25))])
 (.cond (t 26)
 (.seq (.reg [o 27 (.build [(.d (.i .i64 0)), .nilsl] []), u (.store 2 (t 2) (t 27)), u (.store 1 (t 3) (.c (.d (.b false))))])
 .ret)
 .skip))
 (.reg [o 28 (.fadd 1 (t 4)), l 29 28, o 30 (.load true 2 (t 7)), o 31 (.bsl 246 2 1 [(.d (.s [])), (.d (.i .i64 0))] [(0, 2, (t 30))]), o 32 (.app 246 2 24 false (t 29) (t 31)), o 33 (.fadd 1 (t 4)), u (.store 1 (t 33) (t 32))]))))))))
 (.seq (.seq (.reg [m 34 0, o 35 (.len 0 (t 34)), o 36 (b .gtr (t 35) (k 400))])
 (.cond (t 36)
 (.seq (.reg [o 37 (.build [(.d (.i .i64 0)), .nilsl] []), u (.store 2 (t 2) (t 37)), u (.store 1 (t 3) (.c (.d (.b false))))])
 .ret)
 .skip))
 (.seq (.reg [o 38 (.load true 2 (t 4)), u (.store 2 (t 2) (t 38)), u (.store 1 (t 3) (.c (.d (.b true))))])
 .ret)))))), false⟩
/-- foreman/flow.Find -/
def a100 : AFn := ⟨15, [.tmp 4, .tmp 5],
 (.seq (.reg [o 2 (.box 49 (t 0)), o 3 (.box 9 (t 1)), o 4 (.mv (k 0)), o 5 (.mv (.c (.d (.b false))))])
 (.seq (.reg [o 7 (.fadd 6 (t 2)), l 8 7, o 9 (.mkfn (.func 155) [] [(t 3)]), o 10 (.callf 154 [(t 8), (t 9)]), m 6 10])
 (.seq (.reg [m 11 6, o 12 (.mx [(t 11), (k 0)]), m 13 6, o 14 (b .geq (t 13) (k 0)), m 4 12, m 5 14])
 .ret))), false⟩
/-- foreman/rec.Put -/
def a103 : AFn := ⟨32, [.tmp 2, .tmp 3],
 (.seq (.reg [o 1 (.box 183 (t 0)), o 2 (.mv (.c .nilsl)), o 3 (.mv (k 0))])
 (.seq (.blk 0 (.seq (.reg [o 6 (.fadd 0 (t 1)), l 7 6, o 8 (.callf 159 [(t 7)]), o 9 (.un .not (t 8)), m 5 9])
 (.cond (t 5)
 (.seq (.reg [o 2 (.mv (.c .nilsl)), o 3 (.mv (k 30))])
 .ret)
 (.seq (.reg [o 11 (.fadd 1 (t 1)), l 12 11, o 13 (.len 1 (t 12)), o 14 (b .gtr (t 13) (k 4096)), m 10 14])
 (.cond (t 10)
 (.seq (.reg [o 2 (.mv (.c .nilsl)), o 3 (.mv (k 31))])
 .ret)
 .skip)))))
 (.seq (.dreg 1 [⟨o 18 (.fadd 1 (t 1)), 3, false, [], none⟩, ⟨l 19 18, 4, false, [], none⟩, ⟨o 20 (.len 1 (t 19)), 5, false, [], none⟩, ⟨o 21 (.cvi .u32 (t 20)), 6, false, [], none⟩, ⟨o 22 (.callf 160 [(t 21)]), 7, true, [], none⟩, ⟨o 15 (.fadd 0 (t 1)), 0, false, [], none⟩, ⟨l 16 15, 1, false, [], none⟩, ⟨o 17 (.bsl 5 1 1 [(.d (.i .u8 0))] [(0, 1, (t 16))]), 2, false, [], (some 0)⟩, ⟨o 23 (.app 5 1 1 false (t 17) (t 22)), 8, true, [], none⟩, ⟨o 24 (.fadd 1 (t 1)), 9, false, [], none⟩, ⟨l 25 24, 10, false, [], none⟩, ⟨o 26 (.app 5 1 1 false (t 23) (t 25)), 11, true, [], none⟩, ⟨m 4 26, 12, false, [11, 8, 7], none⟩])
 (.seq (.reg [m 27 4, o 28 (.callf 161 [(t 27)]), o 29 (.callf 160 [(t 28)]), m 30 4, o 31 (.app 5 1 1 false (t 29) (t 30)), m 2 31, o 3 (.mv (k 0))])
 .ret)))), false⟩
/-- foreman/batch.count -/
def a104 : AFn := ⟨9, [.tmp 2],
 (.seq (.reg [o 2 (.mv (.c .nilsl))])
 (.seq (.reg [m 3 0, o 4 (.cvi .u8 (t 3)), m 5 0, o 6 (b .shr (t 5) (.c (.d (.i .u64 8)))), o 7 (.cvi .u8 (t 6)), o 8 (.bsl 5 1 2 [(.d (.i .u8 0))] [(0, 1, (t 4)), (1, 1, (t 7))]), m 2 8])
 .ret)), false⟩
/-- (*foreman/journal.Journal).put$1 -/
def a105 : AFn := ⟨8, [.tmp 3],
 (.seq (.reg [o 3 (.mv (k 0))])
 (.seq (.reg [o 4 (.mkfn (.func 106) [] [(t 0), (t 1), (t 2)]), o 5 (.mkfn (.func 108) [] [(t 0), (t 1)]), o 6 (.bsl 44 1 2 [(.d .nilf)] [(0, 1, (t 4)), (1, 1, (t 5))]), o 7 (.callf 62 [(t 6)]), m 3 7])
 .ret)), false⟩
/-- (*foreman/journal.Journal).put$1$1 -/
def a106 : AFn := ⟨11, [.tmp 3],
 (.seq (.reg [o 3 (.mv (k 0))])
 (.seq (.dreg 0 [⟨l 4 0, 0, false, [], none⟩, ⟨o 5 (.nilchk (t 4)), 1, false, [], none⟩, ⟨o 6 (.fadd 0 (t 5)), 2, false, [], none⟩, ⟨l 7 6, 3, false, [], none⟩, ⟨l 8 1, 4, false, [], none⟩, ⟨l 9 2, 5, false, [], none⟩, ⟨o 10 (.callf 107 [(t 7), (t 8), (t 9)]), 6, true, [], none⟩, ⟨m 3 10, 7, false, [6], none⟩])
 .ret)), false⟩
/-- (*foreman/disk.Disk).Append -/
def a107 : AFn := ⟨30, [.tmp 6],
 (.seq (.reg [o 3 (.box 54 (t 0)), o 4 (.box 3 (t 1)), o 5 (.box 58 (t 2)), o 6 (.mv (k 0))])
 (.seq (.seq (.reg [l 9 3, o 10 (.callf 37 [(t 9)]), m 7 10])
 (.blk 0 (.seq (.reg [m 12 7, o 13 (b .neq (t 12) (k 0)), m 11 13])
 (.cond (t 11)
 (.seq (.reg [m 14 7, m 6 14])
 .ret)
 (.seq (.reg [l 16 4, o 17 (.callf 114 [(t 16)]), o 18 (.un .not (t 17)), m 15 18])
 (.cond (t 15)
 (.seq (.reg [o 6 (.mv (k 2))])
 .ret)
 (.seq (.dreg 0 [⟨l 22 3, 2, false, [], none⟩, ⟨o 23 (.callf 67 [(t 22)]), 3, true, [], none⟩, ⟨l 20 5, 0, false, [], none⟩, ⟨o 21 (.len 1 (t 20)), 1, false, [], none⟩, ⟨o 24 (b .gtr (t 21) (t 23)), 4, false, [3], none⟩, ⟨m 19 24, 5, false, [3], none⟩])
 (.cond (t 19)
 (.seq (.reg [o 6 (.mv (k 5))])
 .ret)
 .skip))))))))
 (.seq (.reg [o 25 (.mkfn (.func 162) [] [(t 3), (t 4), (t 5)]), o 8 (.alloc 100 [(.d .nilf)]), u (.store 1 (t 8) (t 25))])
 (.seq (.reg [l 26 3, o 27 (.mkfn (.func 163) [] [(t 8), (t 5)]), l 28 8, o 29 (.callf 38 [(t 26), (t 27), (t 28)]), m 6 29])
 .ret)))), false⟩
/-- (*foreman/journal.Journal).put$1$2 -/
def a108 : AFn := ⟨9, [.tmp 2],
 (.seq (.reg [o 2 (.mv (k 0))])
 (.seq (.dreg 0 [⟨l 3 0, 0, false, [], none⟩, ⟨o 4 (.nilchk (t 3)), 1, false, [], none⟩, ⟨o 5 (.fadd 0 (t 4)), 2, false, [], none⟩, ⟨l 6 5, 3, false, [], none⟩, ⟨l 7 1, 4, false, [], none⟩, ⟨o 8 (.callf 109 [(t 6), (t 7)]), 5, true, [], none⟩, ⟨m 2 8, 6, false, [5], none⟩])
 .ret)), false⟩
/-- (*foreman/disk.Disk).Sync -/
def a109 : AFn := ⟨25, [.tmp 4],
 (.seq (.reg [o 4 (.mv (k 0))])
 (.seq (.seq (.reg [m 7 0, o 8 (.callf 37 [(t 7)]), m 5 8])
 (.blk 0 (.seq (.reg [m 10 5, o 11 (b .neq (t 10) (k 0)), m 9 11])
 (.cond (t 9)
 (.seq (.reg [m 12 5, m 4 12])
 .ret)
 (.seq (.reg [m 14 1, o 15 (.callf 114 [(t 14)]), o 16 (.un .not (t 15)), m 13 16])
 (.cond (t 13)
 (.seq (.reg [o 4 (.mv (k 2))])
 .ret)
 .skip))))))
 (.seq (.reg [m 17 0, m 18 1, o 19 (.nilchk (t 17)), o 20 (.fadd 2 (t 19)), o 21 (.iaA 2 2 (t 20) (t 18)), o 6 (.alloc 258 [(.d .nilp)]), u (.store 1 (t 6) (t 21))])
 (.seq (.reg [m 22 0, o 23 (.mkfn (.func 164) [] [(t 6)]), o 24 (.callf 38 [(t 22), (t 23), (.c (.d (.fn (.func 40) [] [])))]), m 4 24])
 .ret)))), false⟩
/-- foreman/journal.save$1 -/
def a110 : AFn := ⟨19, [.tmp 2],
 (.seq (.reg [o 2 (.mv (k 0))])
 (.seq (.dreg 1 [⟨l 6 0, 0, false, [], none⟩, ⟨l 7 1, 1, false, [], none⟩, ⟨o 8 (.nilchk (t 7)), 2, false, [], none⟩, ⟨o 9 (.load true 3 (t 8)), 3, false, [], none⟩, ⟨o 10 (.callf 111 [(t 6), (t 9)]), 4, true, [], none⟩, ⟨m 5 10, 5, false, [4], none⟩, ⟨o 11 (.extr (t 5) 0), 6, false, [4], none⟩, ⟨o 3 (.alloc 94 [(.d (.i .u64 0)), (.d (.i .u64 0)), (.d (.i .u8 0))]), 8, false, [], (some 0)⟩, ⟨u (.store 3 (t 3) (t 11)), 9, true, [], none⟩, ⟨o 12 (.extr (t 5) 1), 7, false, [4], none⟩, ⟨m 4 12, 10, false, [9, 4], none⟩])
 (.seq (.seq (.reg [m 13 4, o 14 (b .eql (t 13) (k 0))])
 (.cond (t 14)
 (.reg [l 15 1, o 16 (.load true 3 (t 3)), o 17 (.nilchk (t 15)), u (.store 3 (t 17) (t 16))])
 .skip))
 (.seq (.reg [m 18 4, m 2 18])
 .ret)))), false⟩
/-- foreman/head.Save -/
def a111 : AFn := ⟨35, [.cell 4 true 3, .tmp 5],
 (.seq (.reg [o 3 (.box 94 (t 1)), o 4 (.alloc 94 [(.d (.i .u64 0)), (.d (.i .u64 0)), (.d (.i .u8 0))]), o 5 (.mv (k 0))])
 (.seq (.reg [o 8 (.fadd 0 (t 3)), l 9 8, o 10 (b .add (t 9) (.c (.d (.i .u64 1)))), o 11 (.fadd 0 (t 3)), u (.store 1 (t 11) (t 10))])
 (.seq (.reg [o 13 (.load true 3 (t 3)), o 14 (.callf 165 [(t 13)]), m 12 14, o 15 (.extr (t 12) 0), o 16 (.extr (t 12) 1), m 6 15, m 7 16])
 (.seq (.seq (.reg [m 17 7, o 18 (b .neq (t 17) (k 0))])
 (.cond (t 18)
 (.seq (.reg [o 19 (.build [(.d (.i .u64 0)), (.d (.i .u64 0)), (.d (.i .u8 0))] []), m 20 7, u (.store 3 (t 4) (t 19)), m 5 20])
 .ret)
 .skip))
 (.seq (.seq (.reg [m 21 0, o 22 (.load true 3 (t 3)), o 23 (.callf 167 [(t 22)]), m 24 6, o 25 (.callf 166 [(t 21), (t 23), (t 24)]), m 7 25])
 (.seq (.reg [m 26 7, o 27 (b .eql (t 26) (k 0))])
 (.cond (t 27)
 (.reg [m 28 0, o 29 (.callf 16 [(t 28)]), m 7 29])
 .skip)))
 (.seq (.seq (.reg [m 30 7, o 31 (b .neq (t 30) (k 0))])
 (.cond (t 31)
 (.seq (.reg [o 32 (.build [(.d (.i .u64 0)), (.d (.i .u64 0)), (.d (.i .u8 0))] []), m 33 7, u (.store 3 (t 4) (t 32)), m 5 33])
 .ret)
 .skip))
 (.seq (.reg [o 34 (.load true 3 (t 3)), u (.store 3 (t 4) (t 34)), o 5 (.mv (k 0))])
 .ret))))))), false⟩
/-- foreman/journal.shorten$1 -/
def a112 : AFn := ⟨14, [.tmp 3],
 (.seq (.reg [o 3 (.mv (k 0))])
 (.seq (.seq (.dreg 0 [⟨l 4 0, 0, false, [], none⟩, ⟨l 5 1, 1, false, [], none⟩, ⟨o 6 (.callf 68 [(t 4), (t 5)]), 2, true, [], none⟩, ⟨o 7 (.len 1 (t 6)), 3, false, [2], none⟩, ⟨l 8 2, 4, false, [], none⟩, ⟨o 9 (b .leq (t 7) (t 8)), 5, false, [2], none⟩])
 (.cond (t 9)
 (.seq (.reg [o 3 (.mv (k 0))])
 .ret)
 .skip))
 (.seq (.reg [l 10 0, l 11 1, l 12 2, o 13 (.callf 113 [(t 10), (t 11), (t 12)]), m 3 13])
 .ret))), false⟩
/-- (*foreman/disk.Disk).Truncate -/
def a113 : AFn := ⟨43, [.tmp 6],
 (.seq (.reg [o 5 (.box 3 (t 2)), o 6 (.mv (k 0))])
 (.seq (.seq (.reg [m 9 0, o 10 (.callf 37 [(t 9)]), m 7 10])
 (.blk 0 (.seq (.reg [m 12 7, o 13 (b .neq (t 12) (k 0)), m 11 13])
 (.cond (t 11)
 (.seq (.reg [m 14 7, m 6 14])
 .ret)
 (.seq (.dreg 0 [⟨m 16 1, 0, false, [], none⟩, ⟨o 17 (.callf 114 [(t 16)]), 1, true, [], none⟩, ⟨o 18 (.un .not (t 17)), 2, false, [1], none⟩, ⟨m 19 18, 3, false, [1], none⟩, ⟨lg 20 5 19 false, 4, false, [1], none⟩, ⟨og 21 (b .lss (t 20) (k 0)) 19 false, 5, false, [1], none⟩, ⟨o 22 (.pick (t 19) (.c (.d (.b true))) (t 21)), 6, false, [1], none⟩, ⟨m 23 22, 7, false, [1], none⟩, ⟨lg 24 5 23 false, 8, false, [1], none⟩, ⟨mg 25 0 23 false, 9, false, [1], none⟩, ⟨mg 26 1 23 false, 10, false, [1], none⟩, ⟨og 27 (.nilchk (t 25)) 23 false, 11, false, [1], none⟩, ⟨og 28 (.fadd 2 (t 27)) 23 false, 12, false, [1], none⟩, ⟨og 29 (.iaA 2 2 (t 28) (t 26)) 23 false, 13, false, [1], none⟩, ⟨og 30 (.fadd 0 (t 29)) 23 false, 14, false, [1], none⟩, ⟨lg 31 30 23 false, 15, false, [1], none⟩, ⟨og 32 (.len 1 (t 31)) 23 false, 16, false, [1], none⟩, ⟨og 33 (b .gtr (t 24) (t 32)) 23 false, 17, false, [1], none⟩, ⟨o 34 (.pick (t 23) (.c (.d (.b true))) (t 33)), 18, false, [1], none⟩, ⟨m 15 34, 19, false, [1], none⟩])
 (.cond (t 15)
 (.seq (.reg [o 6 (.mv (k 2))])
 .ret)
 .skip))))))
 (.seq (.reg [m 35 0, m 36 1, o 37 (.nilchk (t 35)), o 38 (.fadd 2 (t 37)), o 39 (.iaA 2 2 (t 38) (t 36)), o 8 (.alloc 258 [(.d .nilp)]), u (.store 1 (t 8) (t 39))])
 (.seq (.reg [m 40 0, o 41 (.mkfn (.func 168) [] [(t 8), (t 5)]), o 42 (.callf 38 [(t 40), (t 41), (.c (.d (.fn (.func 40) [] [])))]), m 6 42])
 .ret)))), false⟩
/-- foreman/disk.among -/
def a114 : AFn := ⟨9, [.tmp 2],
 (.seq (.reg [o 2 (.mv (.c (.d (.b false))))])
 (.seq (.reg [m 3 0, o 4 (b .eql (t 3) (k 0)), m 5 4, mg 6 0 5 false, og 7 (b .eql (t 6) (k 1)) 5 false, o 8 (.pick (t 5) (.c (.d (.b true))) (t 7)), m 2 8])
 .ret)), false⟩
/-- foreman/flow.Wrong -/
def a116 : AFn := ⟨80, [.tmp 2],
 (.seq (.reg [o 1 (.box 49 (t 0)), o 2 (.mv (k 0))])
 (.seq (.seq (.reg [o 8 (.load true 8 (t 1)), o 9 (.callf 169 [(t 8)]), o 10 (.un .not (t 9))])
 (.cond (t 10)
 (.seq (.reg [o 2 (.mv (k 1))])
 .ret)
 .skip))
 (.seq (.dreg 2 [⟨o 11 (.load true 8 (t 1)), 0, false, [], none⟩, ⟨o 12 (.fadd 6 (t 1)), 1, false, [], none⟩, ⟨l 13 12, 2, false, [], none⟩, ⟨o 14 (.len 1 (t 13)), 3, false, [], none⟩, ⟨o 15 (.mksl 81 1 24 [.nilsl] (t 14) (t 14)), 4, false, [], (some 0)⟩, ⟨o 16 (.build [(.d (.i .i64 0)), (.d (.i .i64 0)), (.d (.i .i64 0)), (.d (.i .i64 0)), (.d (.i .i64 0)), (.d (.i .i64 0)), .nilsl, (.d (.i .i64 0)), .nilsl] [(0, 8, (t 11)), (8, 1, (t 15))]), 5, false, [], none⟩, ⟨o 17 (.box 265 (t 16)), 6, false, [], (some 1)⟩, ⟨m 3 17, 7, false, [], none⟩])
 (.seq (.seq (.reg [m 18 3, o 19 (.callf 170 [(t 18)]), o 20 (.un .not (t 19))])
 (.cond (t 20)
 (.seq (.reg [o 2 (.mv (k 1))])
 .ret)
 .skip))
 (.seq (.seq (.reg [o 21 (.fadd 6 (t 1)), l 22 21, o 23 (.len 1 (t 22)), o 24 (.mv (k 0))])
 (.blk 0 (.loop (.seq (.reg [o 25 (b .lss (t 24) (t 23))])
 (.seq (.cond (t 25)
 .skip
 (.exit 0))
 (.seq (.blk 1 (.seq (.reg [m 26 24, o 27 (.iaS 16 (t 22) (t 24)), o 28 (.load true 16 (t 27)), o 5 (.alloc 83 [(.d (.s [])), (.d (.s [])), (.d (.i .u8 0)), (.d (.i .i64 0)), (.d (.i .i64 0)), (.d (.i .i64 0)), .nilsl, (.d (.i .i64 0)), (.d (.i .i64 0)), (.d (.i .u8 0)), (.d (.i .i64 0)), (.d (.i .i64 0)), (.d (.i .u8 0)), (.d (.i .i64 0)), (.d (.s [])), .nilsl]), m 4 26, u (.store 16 (t 5) (t 28))])
 (.seq (.reg [o 29 (.fadd 4 (t 5)), l 30 29, o 31 (b .geq (t 30) (k 0))])
 (.cond (t 31)
 (.dreg 1 [⟨m 38 3, 6, false, [], none⟩, ⟨o 39 (.nilchk (t 38)), 7, false, [], none⟩, ⟨o 40 (.fadd 8 (t 39)), 8, false, [], none⟩, ⟨l 41 40, 9, false, [], none⟩, ⟨o 42 (.fadd 4 (t 5)), 10, false, [], none⟩, ⟨l 43 42, 11, false, [], none⟩, ⟨o 44 (.iaS 1 (t 41) (t 43)), 12, false, [], none⟩, ⟨l 45 44, 13, false, [], none⟩, ⟨m 46 4, 14, false, [], none⟩, ⟨o 47 (.bsl 3 1 1 [(.d (.i .i64 0))] [(0, 1, (t 46))]), 15, false, [], (some 0)⟩, ⟨o 48 (.app 3 1 8 false (t 45) (t 47)), 16, true, [], none⟩, ⟨m 32 3, 0, false, [], none⟩, ⟨o 33 (.nilchk (t 32)), 1, false, [], none⟩, ⟨o 34 (.fadd 8 (t 33)), 2, false, [], none⟩, ⟨l 35 34, 3, false, [], none⟩, ⟨o 36 (.fadd 4 (t 5)), 4, false, [], none⟩, ⟨l 37 36, 5, false, [], none⟩, ⟨o 49 (.iaS 1 (t 35) (t 37)), 17, false, [16], none⟩, ⟨u (.store 1 (t 49) (t 48)), 18, true, [], none⟩])
 .skip))))
 (.reg [o 50 (b .add (t 24) (k 1)), m 24 50])))))))
 (.seq (.seq (.reg [m 51 3, o 52 (.mkfn (.func 171) [(t 51)] []), m 53 3, o 54 (.mkfn (.func 172) [(t 53)] []), m 55 3, o 56 (.mkfn (.func 173) [(t 55)] []), m 57 3, o 58 (.mkfn (.func 174) [(t 57)] []), m 59 3, o 60 (.mkfn (.func 175) [(t 59)] []), m 61 3, o 62 (.mkfn (.func 176) [(t 61)] []), m 63 3, o 64 (.mkfn (.func 177) [(t 63)] []), m 65 3, o 66 (.mkfn (.func 178) [(t 65)] []), m 67 3, o 68 (.mkfn (.func 179) [(t 67)] []), o 69 (.build [(.d .nilf), (.d .nilf), (.d .nilf), (.d .nilf), (.d .nilf), (.d .nilf), (.d .nilf), (.d .nilf), (.d .nilf)] [(0, 1, (t 52)), (1, 1, (t 54)), (2, 1, (t 56)), (3, 1, (t 58)), (4, 1, (t 60)), (5, 1, (t 62)), (6, 1, (t 64)), (7, 1, (t 66)), (8, 1, (t 68))]), o 70 (.mv (k 0))])
 (.blk 2 (.loop (.seq (.reg [o 71 (b .lss (t 70) (k 9))])
 (.seq (.cond (t 71)
 .skip
 (.exit 2))
 (.seq (.blk 3 (.seq (.reg [m 72 70, o 73 (.ixA 9 1 false 1 (t 69) (t 70)), m 6 72, m 7 73])
 (.seq (.reg [m 74 7, o 75 (.callv (t 74) []), o 76 (.un .not (t 75))])
 (.cond (t 76)
 (.seq (.reg [m 77 6, o 78 (b .add (k 2) (t 77)), m 2 78])
 .ret)
 .skip))))
 (.reg [o 79 (b .add (t 70) (k 1)), m 70 79])))))))
 (.seq (.reg [o 2 (.mv (k 0))])
 .ret))))))), false⟩
/-- foreman/build.Order -/
def a117 : AFn := ⟨21, [.tmp 2, .tmp 3],
 (.seq (.reg [o 1 (.box 49 (t 0)), o 2 (.mv (.c (.d .nilp))), o 3 (.mv (k 0))])
 (.seq (.reg [o 8 (.callf 180 [(k 0)]), m 7 8, o 9 (.extr (t 7) 0), o 10 (.extr (t 7) 1), m 4 9, m 5 10])
 (.seq (.seq (.reg [m 11 5, o 12 (b .neq (t 11) (k 0))])
 (.cond (t 12)
 (.seq (.reg [m 13 5, o 2 (.mv (.c (.d .nilp))), m 3 13])
 .ret)
 .skip))
 (.seq (.seq (.reg [m 14 4, o 15 (.load true 8 (t 1)), o 16 (.callf 141 [(t 14), (t 15)]), m 6 16])
 (.seq (.reg [m 17 6, o 18 (b .neq (t 17) (k 0))])
 (.cond (t 18)
 (.seq (.reg [m 19 6, o 2 (.mv (.c (.d .nilp))), m 3 19])
 .ret)
 .skip)))
 (.seq (.reg [m 20 4, m 2 20, o 3 (.mv (k 0))])
 .ret))))), true⟩
/-- foreman/head.Pick -/
def a118 : AFn := ⟨43, [.cell 4 true 3, .tmp 5],
 (.seq (.reg [o 4 (.alloc 94 [(.d (.i .u64 0)), (.d (.i .u64 0)), (.d (.i .u8 0))]), o 5 (.mv (.c (.d (.b false))))])
 (.seq (.reg [o 6 (.alloc 94 [(.d (.i .u64 0)), (.d (.i .u64 0)), (.d (.i .u8 0))])])
 (.seq (.seq (.reg [m 11 0, m 12 1, o 13 (.build [.nilsl, .nilsl] [(0, 1, (t 11)), (1, 1, (t 12))]), o 14 (.mv (k 0))])
 (.blk 0 (.loop (.seq (.reg [o 15 (b .lss (t 14) (k 2))])
 (.seq (.cond (t 15)
 .skip
 (.exit 0))
 (.seq (.blk 1 (.seq (.reg [m 16 14, o 17 (.ixA 2 1 false 1 (t 13) (t 14)), m 7 16, m 8 17])
 (.seq (.reg [m 19 8, o 20 (.callf 181 [(t 19)]), m 18 20, o 21 (.extr (t 18) 0), o 22 (.extr (t 18) 1), o 9 (.alloc 94 [(.d (.i .u64 0)), (.d (.i .u64 0)), (.d (.i .u8 0))]), u (.store 3 (t 9) (t 21)), m 10 22])
 (.seq (.reg [m 23 10, m 24 23, og 25 (.load true 3 (t 9)) 24 true, og 26 (.callf 167 [(t 25)]) 24 true, mg 27 7 24 true, og 28 (b .eql (t 26) (t 27)) 24 true, o 29 (.pick (t 24) (t 28) (.c (.d (.b false)))), m 30 29, og 31 (.fadd 0 (t 9)) 30 true, lg 32 31 30 true, og 33 (.fadd 0 (t 6)) 30 true, lg 34 33 30 true, og 35 (b .gtr (t 32) (t 34)) 30 true, o 36 (.pick (t 30) (t 35) (.c (.d (.b false))))])
 (.cond (t 36)
 (.reg [o 37 (.load true 3 (t 9)), u (.store 3 (t 6) (t 37))])
 .skip)))))
 (.reg [o 38 (b .add (t 14) (k 1)), m 14 38])))))))
 (.seq (.dreg 0 [⟨o 39 (.load true 3 (t 6)), 0, false, [], none⟩, ⟨u (.store 3 (t 4) (t 39)), 4, true, [], none⟩, ⟨o 40 (.fadd 0 (t 6)), 1, false, [], none⟩, ⟨l 41 40, 2, false, [], none⟩, ⟨o 42 (b .gtr (t 41) (.c (.d (.i .u64 0)))), 3, false, [], none⟩, ⟨m 5 42, 5, false, [4], none⟩])
 .ret)))), false⟩
/-- (*foreman/disk.Disk).Head -/
def a119 : AFn := ⟨25, [.tmp 4],
 (.seq (.reg [o 4 (.mv (.c .nilsl))])
 (.seq (.seq (.reg [m 6 0, o 7 (.callf 36 [(t 6)]), m 8 7, mg 9 1 8 false, og 10 (.callf 114 [(t 9)]) 8 false, og 11 (.un .not (t 10)) 8 false, o 12 (.pick (t 8) (.c (.d (.b true))) (t 11))])
 (.cond (t 12)
 (.seq (.reg [o 4 (.mv (.c .nilsl))])
 .ret)
 .skip))
 (.seq (.reg [m 13 0, m 14 1, o 15 (.nilchk (t 13)), o 16 (.fadd 6 (t 15)), o 17 (.iaA 2 65 (t 16) (t 14)), o 18 (.load true 65 (t 17)), o 5 (.alloc 64 [(.d (.i .u8 0)), (.d (.i .u8 0)), (.d (.i .u8 0)), (.d (.i .u8 0)), (.d (.i .u8 0)), (.d (.i .u8 0)), (.d (.i .u8 0)), (.d (.i .u8 0)), (.d (.i .u8 0)), (.d (.i .u8 0)), (.d (.i .u8 0)), (.d (.i .u8 0)), (.d (.i .u8 0)), (.d (.i .u8 0)), (.d (.i .u8 0)), (.d (.i .u8 0)), (.d (.i .u8 0)), (.d (.i .u8 0)), (.d (.i .u8 0)), (.d (.i .u8 0)), (.d (.i .u8 0)), (.d (.i .u8 0)), (.d (.i .u8 0)), (.d (.i .u8 0)), (.d (.i .u8 0)), (.d (.i .u8 0)), (.d (.i .u8 0)), (.d (.i .u8 0)), (.d (.i .u8 0)), (.d (.i .u8 0)), (.d (.i .u8 0)), (.d (.i .u8 0)), (.d (.i .u8 0)), (.d (.i .u8 0)), (.d (.i .u8 0)), (.d (.i .u8 0)), (.d (.i .u8 0)), (.d (.i .u8 0)), (.d (.i .u8 0)), (.d (.i .u8 0)), (.d (.i .u8 0)), (.d (.i .u8 0)), (.d (.i .u8 0)), (.d (.i .u8 0)), (.d (.i .u8 0)), (.d (.i .u8 0)), (.d (.i .u8 0)), (.d (.i .u8 0)), (.d (.i .u8 0)), (.d (.i .u8 0)), (.d (.i .u8 0)), (.d (.i .u8 0)), (.d (.i .u8 0)), (.d (.i .u8 0)), (.d (.i .u8 0)), (.d (.i .u8 0)), (.d (.i .u8 0)), (.d (.i .u8 0)), (.d (.i .u8 0)), (.d (.i .u8 0)), (.d (.i .u8 0)), (.d (.i .u8 0)), (.d (.i .u8 0)), (.d (.i .u8 0)), (.d (.b false))]), u (.store 65 (t 5) (t 18))])
 (.seq (.seq (.reg [o 19 (.fadd 64 (t 5)), l 20 19])
 (.cond (t 20)
 (.seq (.reg [o 21 (.fadd 32 (t 5)), o 22 (.slArr 32 1 (t 21) none none none), m 4 22])
 .ret)
 .skip))
 (.seq (.reg [o 23 (.fadd 0 (t 5)), o 24 (.slArr 32 1 (t 23) none none none), m 4 24])
 .ret))))), false⟩
/-- foreman/rec.Take -/
def a120 : AFn := ⟨51, [.cell 2 true 2, .tmp 3, .tmp 4],
 (.seq (.reg [o 2 (.alloc 183 [(.d (.i .u8 0)), .nilsl]), o 3 (.mv (k 0)), o 4 (.mv (k 0))])
 (.seq (.seq (.reg [m 7 0, o 8 (.len 1 (t 7)), o 9 (b .lss (t 8) (k 9))])
 (.cond (t 9)
 (.seq (.reg [o 10 (.build [(.d (.i .u8 0)), .nilsl] []), u (.store 2 (t 2) (t 10)), o 3 (.mv (k 0)), o 4 (.mv (k 32))])
 .ret)
 .skip))
 (.seq (.reg [m 11 0, o 12 (.slSl 1 (t 11) (some (k 5)) none none), o 13 (.callf 182 [(t 12)]), m 5 13])
 (.seq (.seq (.reg [m 14 5, o 15 (b .gtr (t 14) (.c (.d (.i .u32 4096))))])
 (.cond (t 15)
 (.seq (.reg [o 16 (.build [(.d (.i .u8 0)), .nilsl] []), u (.store 2 (t 2) (t 16)), o 3 (.mv (k 0)), o 4 (.mv (k 31))])
 .ret)
 .skip))
 (.seq (.reg [m 17 5, o 18 (.cvi .i64 (t 17)), o 19 (b .add (k 9) (t 18)), m 6 19])
 (.seq (.blk 0 (.seq (.reg [m 21 0, o 22 (.len 1 (t 21)), m 23 6, o 24 (b .lss (t 22) (t 23)), m 20 24])
 (.cond (t 20)
 (.seq (.reg [o 25 (.build [(.d (.i .u8 0)), .nilsl] []), u (.store 2 (t 2) (t 25)), o 3 (.mv (k 0)), o 4 (.mv (k 32))])
 .ret)
 (.seq (.reg [m 27 0, m 28 6, o 29 (.slSl 1 (t 27) (some (k 4)) (some (t 28)) none), o 30 (.callf 161 [(t 29)]), m 31 0, o 32 (.callf 182 [(t 31)]), o 33 (b .neq (t 30) (t 32)), m 26 33])
 (.cond (t 26)
 (.seq (.reg [o 34 (.build [(.d (.i .u8 0)), .nilsl] []), u (.store 2 (t 2) (t 34)), o 3 (.mv (k 0)), o 4 (.mv (k 33))])
 .ret)
 (.seq (.reg [m 36 0, o 37 (.iaS 1 (t 36) (k 4)), l 38 37, o 39 (.callf 159 [(t 38)]), o 40 (.un .not (t 39)), m 35 40])
 (.cond (t 35)
 (.seq (.reg [o 41 (.build [(.d (.i .u8 0)), .nilsl] []), u (.store 2 (t 2) (t 41)), o 3 (.mv (k 0)), o 4 (.mv (k 30))])
 .ret)
 .skip)))))))
 (.seq (.dreg 0 [⟨m 45 0, 3, false, [], none⟩, ⟨m 46 6, 4, false, [], none⟩, ⟨o 47 (.slSl 1 (t 45) (some (k 9)) (some (t 46)) none), 5, false, [], none⟩, ⟨o 48 (.clone 115 5 1 1 false (t 47)), 6, true, [], none⟩, ⟨m 42 0, 0, false, [], none⟩, ⟨o 43 (.iaS 1 (t 42) (k 4)), 1, false, [], none⟩, ⟨l 44 43, 2, false, [], none⟩, ⟨o 49 (.build [(.d (.i .u8 0)), .nilsl] [(0, 1, (t 44)), (1, 1, (t 48))]), 7, false, [6], none⟩, ⟨u (.store 2 (t 2) (t 49)), 9, true, [], none⟩, ⟨m 50 6, 8, false, [], none⟩, ⟨m 3 50, 10, false, [9, 6], none⟩, ⟨o 4 (.mv (k 0)), 11, false, [9, 6], none⟩])
 .ret))))))), false⟩
/-- (*foreman/batch.scan).take -/
def a121 : AFn := ⟨60, [.tmp 4, .tmp 5],
 (.seq (.reg [o 3 (.box 183 (t 1)), o 4 (.mv (.c (.d (.b false)))), o 5 (.mv (k 0))])
 (.seq (.seq (.reg [o 6 (.fadd 0 (t 3)), l 7 6, o 8 (b .eql (t 7) (.c (.d (.i .u8 1))))])
 (.cond (t 8)
 (.seq (.seq (.reg [m 9 0, o 10 (.nilchk (t 9)), o 11 (.fadd 1 (t 10)), l 12 11, o 13 (.len 1 (t 12)), o 14 (b .eql (t 13) (k 1024))])
 (.cond (t 14)
 (.seq (.reg [o 4 (.mv (.c (.d (.b false)))), o 5 (.mv (k 34))])
 .ret)
 .skip))
 (.seq (.dreg 1 [⟨m 16 0, 1, false, [], none⟩, ⟨o 17 (.nilchk (t 16)), 2, false, [], none⟩, ⟨o 18 (.fadd 1 (t 17)), 3, false, [], none⟩, ⟨l 19 18, 4, false, [], none⟩, ⟨o 20 (.fadd 1 (t 3)), 5, false, [], none⟩, ⟨l 21 20, 6, false, [], none⟩, ⟨o 22 (.bsl 58 1 1 [.nilsl] [(0, 1, (t 21))]), 7, false, [], (some 0)⟩, ⟨o 23 (.app 58 1 24 false (t 19) (t 22)), 8, true, [], none⟩, ⟨m 15 0, 0, false, [], none⟩, ⟨o 24 (.nilchk (t 15)), 9, false, [8], none⟩, ⟨o 25 (.fadd 1 (t 24)), 10, false, [8], none⟩, ⟨u (.store 1 (t 25) (t 23)), 11, true, [], none⟩])
 (.seq (.reg [o 4 (.mv (.c (.d (.b false)))), o 5 (.mv (k 0))])
 .ret)))
 .skip))
 (.seq (.seq (.dreg 0 [⟨m 26 0, 0, false, [], none⟩, ⟨o 27 (.nilchk (t 26)), 1, false, [], none⟩, ⟨o 28 (.fadd 1 (t 27)), 2, false, [], none⟩, ⟨l 29 28, 3, false, [], none⟩, ⟨o 30 (.len 1 (t 29)), 4, false, [], none⟩, ⟨o 31 (b .eql (t 30) (k 0)), 5, false, [], none⟩, ⟨m 32 31, 6, false, [], none⟩, ⟨mg 35 0 32 false, 9, false, [], none⟩, ⟨og 36 (.nilchk (t 35)) 32 false, 10, false, [], none⟩, ⟨og 37 (.fadd 1 (t 36)) 32 false, 11, false, [], none⟩, ⟨lg 38 37 32 false, 12, false, [], none⟩, ⟨og 39 (.len 1 (t 38)) 32 false, 13, false, [], none⟩, ⟨og 40 (.callf 104 [(t 39)]) 32 false, 14, true, [], none⟩, ⟨og 33 (.fadd 1 (t 3)) 32 false, 7, false, [], none⟩, ⟨lg 34 33 32 false, 8, false, [], none⟩, ⟨og 41 (.callf 183 [(t 34), (t 40)]) 32 false, 15, true, [], none⟩, ⟨og 42 (.un .not (t 41)) 32 false, 16, false, [15, 14], none⟩, ⟨o 43 (.pick (t 32) (.c (.d (.b true))) (t 42)), 17, false, [15, 14], none⟩])
 (.cond (t 43)
 (.seq (.reg [o 4 (.mv (.c (.d (.b false)))), o 5 (.mv (k 34))])
 .ret)
 .skip))
 (.seq (.dreg 1 [⟨m 46 0, 2, false, [], none⟩, ⟨o 47 (.nilchk (t 46)), 3, false, [], none⟩, ⟨o 48 (.fadd 0 (t 47)), 4, false, [], none⟩, ⟨l 49 48, 5, false, [], none⟩, ⟨m 50 0, 6, false, [], none⟩, ⟨o 51 (.nilchk (t 50)), 7, false, [], none⟩, ⟨o 52 (.fadd 1 (t 51)), 8, false, [], none⟩, ⟨l 53 52, 9, false, [], none⟩, ⟨o 54 (.bsl 84 1 1 [.nilsl] [(0, 1, (t 53))]), 10, false, [], (some 0)⟩, ⟨o 55 (.app 84 1 24 false (t 49) (t 54)), 11, true, [], none⟩, ⟨m 44 0, 0, false, [], none⟩, ⟨o 56 (.nilchk (t 44)), 12, false, [11], none⟩, ⟨o 57 (.fadd 0 (t 56)), 13, false, [11], none⟩, ⟨u (.store 1 (t 57) (t 55)), 14, true, [], none⟩, ⟨m 45 0, 1, false, [], none⟩, ⟨o 58 (.nilchk (t 45)), 15, false, [14, 11], none⟩, ⟨o 59 (.fadd 1 (t 58)), 16, false, [14, 11], none⟩, ⟨u (.store 1 (t 59) (.c .nilsl)), 17, true, [], none⟩])
 (.seq (.reg [o 4 (.mv (.c (.d (.b true)))), o 5 (.mv (k 0))])
 .ret))))), false⟩
/-- foreman/replay.entries$1 -/
def a122 : AFn := ⟨28, [],
 (.seq (.reg [l 7 1, o 8 (.len 1 (t 7)), o 9 (.mv (k 0))])
 (.blk 0 (.loop (.seq (.reg [o 10 (b .lss (t 9) (t 8))])
 (.seq (.cond (t 10)
 .skip
 (.exit 0))
 (.seq (.blk 1 (.seq (.reg [o 11 (.iaS 1 (t 7) (t 9)), l 12 11, m 4 12])
 (.seq (.reg [m 14 4, o 15 (.callf 123 [(t 14)]), m 13 15, o 16 (.extr (t 13) 0), o 17 (.extr (t 13) 1), o 5 (.alloc 112 [(.d (.i .u8 0)), (.d (.i .u64 0)), (.d (.i .u8 0)), (.d (.s [])), (.d (.i .i64 0)), (.d (.i .u8 0)), (.d (.i .i64 0)), (.d (.s [])), .nilsl, .nilsl, (.d (.i .i64 0)), (.d (.i .i64 0)), (.d (.i .i64 0)), (.d (.i .i64 0)), (.d (.i .i64 0)), (.d (.i .i64 0)), (.d (.i .i64 0)), .nilsl, (.d (.i .i64 0))]), u (.store 19 (t 5) (t 16)), m 6 17])
 (.seq (.reg [m 18 0, o 19 (.load true 19 (t 5)), m 20 6, o 21 (.callv (t 18) [(t 19), (t 20)]), o 22 (.un .not (t 21)), m 23 22, mg 24 6 23 false, og 25 (b .neq (t 24) (k 0)) 23 false, o 26 (.pick (t 23) (.c (.d (.b true))) (t 25))])
 (.cond (t 26)
 .ret
 .skip)))))
 (.reg [o 27 (b .add (t 9) (k 1)), m 9 27]))))))), false⟩
/-- foreman/replay.Read -/
def a123 : AFn := ⟨59, [.cell 2 true 19, .tmp 3],
 (.seq (.reg [o 2 (.alloc 112 [(.d (.i .u8 0)), (.d (.i .u64 0)), (.d (.i .u8 0)), (.d (.s [])), (.d (.i .i64 0)), (.d (.i .u8 0)), (.d (.i .i64 0)), (.d (.s [])), .nilsl, .nilsl, (.d (.i .i64 0)), (.d (.i .i64 0)), (.d (.i .i64 0)), (.d (.i .i64 0)), (.d (.i .i64 0)), (.d (.i .i64 0)), (.d (.i .i64 0)), .nilsl, (.d (.i .i64 0))]), o 3 (.mv (k 0))])
 (.seq (.reg [m 8 0, o 9 (.callf 184 [(t 8)]), m 4 9])
 (.seq (.seq (.reg [m 10 4, o 11 (.len 1 (t 10)), o 12 (b .lss (t 11) (k 9))])
 (.cond (t 12)
 (.seq (.reg [o 13 (.build [(.d (.i .u8 0)), (.d (.i .u64 0)), (.d (.i .u8 0)), (.d (.s [])), (.d (.i .i64 0)), (.d (.i .u8 0)), (.d (.i .i64 0)), (.d (.s [])), .nilsl, .nilsl, (.d (.i .i64 0)), (.d (.i .i64 0)), (.d (.i .i64 0)), (.d (.i .i64 0)), (.d (.i .i64 0)), (.d (.i .i64 0)), (.d (.i .i64 0)), .nilsl, (.d (.i .i64 0))] []), u (.store 19 (t 2) (t 13)), o 3 (.mv (k 30))])
 .ret)
 .skip))
 (.seq (.reg [m 14 4, o 15 (.iaS 1 (t 14) (k 0)), l 16 15, o 17 (.build [(.d (.i .u8 0)), (.d (.i .u64 0)), (.d (.i .u8 0)), (.d (.s [])), (.d (.i .i64 0)), (.d (.i .u8 0)), (.d (.i .i64 0)), (.d (.s [])), .nilsl, .nilsl, (.d (.i .i64 0)), (.d (.i .i64 0)), (.d (.i .i64 0)), (.d (.i .i64 0)), (.d (.i .i64 0)), (.d (.i .i64 0)), (.d (.i .i64 0)), .nilsl, (.d (.i .i64 0))] [(0, 1, (t 16))]), o 5 (.alloc 112 [(.d (.i .u8 0)), (.d (.i .u64 0)), (.d (.i .u8 0)), (.d (.s [])), (.d (.i .i64 0)), (.d (.i .u8 0)), (.d (.i .i64 0)), (.d (.s [])), .nilsl, .nilsl, (.d (.i .i64 0)), (.d (.i .i64 0)), (.d (.i .i64 0)), (.d (.i .i64 0)), (.d (.i .i64 0)), (.d (.i .i64 0)), (.d (.i .i64 0)), .nilsl, (.d (.i .i64 0))]), u (.store 19 (t 5) (t 17))])
 (.seq (.seq (.reg [o 18 (.mv (k 0))])
 (.blk 0 (.loop (.seq (.reg [o 19 (b .lss (t 18) (k 8))])
 (.seq (.cond (t 19)
 .skip
 (.exit 0))
 (.seq (.blk 1 (.seq (.reg [m 20 18, m 6 20])
 (.dreg 0 [⟨o 21 (.fadd 1 (t 5)), 0, false, [], none⟩, ⟨l 22 21, 1, false, [], none⟩, ⟨m 23 4, 2, false, [], none⟩, ⟨m 24 6, 3, false, [], none⟩, ⟨o 25 (b .add (k 1) (t 24)), 4, false, [], none⟩, ⟨o 26 (.iaS 1 (t 23) (t 25)), 5, false, [], none⟩, ⟨l 27 26, 6, false, [], none⟩, ⟨o 28 (.cvi .u64 (t 27)), 7, false, [], none⟩, ⟨m 29 6, 8, false, [], none⟩, ⟨o 30 (b .mul (k 8) (t 29)), 9, false, [], none⟩, ⟨o 31 (b .shl (t 28) (t 30)), 10, false, [], none⟩, ⟨o 32 (b .or (t 22) (t 31)), 11, false, [], none⟩, ⟨o 33 (.fadd 1 (t 5)), 12, false, [], none⟩, ⟨u (.store 1 (t 33) (t 32)), 13, true, [], none⟩])))
 (.reg [o 34 (b .add (t 18) (k 1)), m 18 34])))))))
 (.seq (.reg [o 7 (.mv (k 30))])
 (.seq (.seq (.reg [o 35 (.fadd 0 (t 5)), l 36 35])
 (.blk 2 (.seq (.reg [o 38 (b .eql (t 36) (.c (.d (.i .u8 1)))), m 37 38])
 (.cond (t 37)
 (.reg [m 40 4, o 41 (.slSl 1 (t 40) (some (k 9)) none none), o 42 (.callf 185 [(t 41)]), m 39 42, o 43 (.extr (t 39) 0), o 44 (.extr (t 39) 1), o 45 (.fadd 2 (t 5)), u (.store 9 (t 45) (t 43)), m 7 44])
 (.seq (.reg [o 47 (b .eql (t 36) (.c (.d (.i .u8 2)))), m 46 47])
 (.cond (t 46)
 (.reg [m 49 4, o 50 (.slSl 1 (t 49) (some (k 9)) none none), o 51 (.callf 186 [(t 50)]), m 48 51, o 52 (.extr (t 48) 0), o 53 (.extr (t 48) 1), o 54 (.fadd 11 (t 5)), u (.store 8 (t 54) (t 52)), m 7 53])
 .skip))))))
 (.seq (.seq (.reg [m 55 7, o 56 (b .neq (t 55) (k 0))])
 (.cond (t 56)
 (.seq (.reg [o 57 (.build [(.d (.i .u8 0)), (.d (.i .u64 0)), (.d (.i .u8 0)), (.d (.s [])), (.d (.i .i64 0)), (.d (.i .u8 0)), (.d (.i .i64 0)), (.d (.s [])), .nilsl, .nilsl, (.d (.i .i64 0)), (.d (.i .i64 0)), (.d (.i .i64 0)), (.d (.i .i64 0)), (.d (.i .i64 0)), (.d (.i .i64 0)), (.d (.i .i64 0)), .nilsl, (.d (.i .i64 0))] []), u (.store 19 (t 2) (t 57)), o 3 (.mv (k 30))])
 .ret)
 .skip))
 (.seq (.reg [o 58 (.load true 19 (t 5)), u (.store 19 (t 2) (t 58)), o 3 (.mv (k 0))])
 .ret))))))))), false⟩
/-- foreman/op.Bytes -/
def a124 : AFn := ⟨52, [.tmp 2, .tmp 3],
 (.seq (.reg [o 1 (.box 27 (t 0)), o 2 (.mv (.c .nilsl)), o 3 (.mv (k 0))])
 (.seq (.seq (.reg [o 6 (.load true 9 (t 1)), o 7 (.callf 54 [(t 6)]), o 8 (.un .not (t 7))])
 (.cond (t 8)
 (.seq (.reg [o 2 (.mv (.c .nilsl)), o 3 (.mv (k 2))])
 .ret)
 .skip))
 (.seq (.reg [o 9 (.fadd 0 (t 1)), l 10 9, o 11 (.callf 84 [(t 10)]), m 4 11])
 (.seq (.reg [o 12 (.fadd 0 (t 1)), l 13 12, o 14 (.cvi .i64 (t 13)), o 15 (.callf 187 [(.c .nilsl), (t 14)]), m 5 15])
 (.seq (.seq (.reg [m 16 4, o 17 (b .and (t 16) (.c (.d (.i .u8 4)))), o 18 (b .neq (t 17) (.c (.d (.i .u8 0))))])
 (.cond (t 18)
 (.reg [m 19 5, o 20 (.fadd 1 (t 1)), l 21 20, o 22 (.callf 188 [(t 19), (t 21)]), m 5 22])
 .skip))
 (.seq (.seq (.reg [m 23 4, o 24 (b .and (t 23) (.c (.d (.i .u8 8)))), o 25 (b .neq (t 24) (.c (.d (.i .u8 0))))])
 (.cond (t 25)
 (.reg [m 26 5, o 27 (.fadd 2 (t 1)), l 28 27, o 29 (.callf 187 [(t 26), (t 28)]), m 5 29])
 .skip))
 (.seq (.seq (.reg [m 30 4, o 31 (b .and (t 30) (.c (.d (.i .u8 16)))), o 32 (b .neq (t 31) (.c (.d (.i .u8 0))))])
 (.cond (t 32)
 (.reg [m 33 5, o 34 (.fadd 3 (t 1)), o 35 (.load true 4 (t 34)), o 36 (.callf 189 [(t 33), (t 35)]), m 5 36])
 .skip))
 (.seq (.seq (.reg [m 37 4, o 38 (b .and (t 37) (.c (.d (.i .u8 1)))), o 39 (b .neq (t 38) (.c (.d (.i .u8 0))))])
 (.cond (t 39)
 (.reg [m 40 5, o 41 (.fadd 7 (t 1)), l 42 41, o 43 (.callf 190 [(t 40), (t 42)]), m 5 43])
 .skip))
 (.seq (.seq (.reg [m 44 4, o 45 (b .and (t 44) (.c (.d (.i .u8 2)))), o 46 (b .neq (t 45) (.c (.d (.i .u8 0))))])
 (.cond (t 46)
 (.reg [m 47 5, o 48 (.fadd 8 (t 1)), l 49 48, o 50 (.callf 187 [(t 47), (t 49)]), m 5 50])
 .skip))
 (.seq (.reg [m 51 5, m 2 51, o 3 (.mv (k 0))])
 .ret)))))))))), false⟩
/-- foreman/snap.Bytes -/
def a125 : AFn := ⟨37, [.tmp 2, .tmp 3],
 (.seq (.reg [o 1 (.box 49 (t 0)), o 2 (.mv (.c .nilsl)), o 3 (.mv (k 0))])
 (.seq (.seq (.reg [o 8 (.load true 8 (t 1)), o 9 (.callf 169 [(t 8)]), o 10 (.un .not (t 9))])
 (.cond (t 10)
 (.seq (.reg [o 2 (.mv (.c .nilsl)), o 3 (.mv (k 2))])
 .ret)
 .skip))
 (.seq (.dreg 0 [⟨o 11 (.callf 192 [(t 1)]), 0, true, [], none⟩, ⟨o 12 (.callf 191 [(.c .nilsl), (t 11)]), 1, true, [], none⟩, ⟨o 13 (.fadd 7 (t 1)), 2, false, [], none⟩, ⟨l 14 13, 3, false, [], none⟩, ⟨o 15 (.callf 187 [(t 12), (t 14)]), 4, true, [], none⟩, ⟨o 16 (.fadd 6 (t 1)), 5, false, [], none⟩, ⟨l 17 16, 6, false, [], none⟩, ⟨o 18 (.len 1 (t 17)), 7, false, [], none⟩, ⟨o 19 (.callf 187 [(t 15), (t 18)]), 8, true, [], none⟩, ⟨m 4 19, 9, false, [8, 4, 1, 0], none⟩])
 (.seq (.reg [o 5 (.mv (.c .nilsl))])
 (.seq (.seq (.reg [o 20 (.fadd 6 (t 1)), l 21 20, o 22 (.len 1 (t 21)), o 23 (.mv (k 0))])
 (.blk 0 (.loop (.seq (.reg [o 24 (b .lss (t 23) (t 22))])
 (.seq (.cond (t 24)
 .skip
 (.exit 0))
 (.seq (.blk 1 (.seq (.reg [o 25 (.iaS 16 (t 21) (t 23)), o 26 (.load true 16 (t 25)), o 7 (.alloc 83 [(.d (.s [])), (.d (.s [])), (.d (.i .u8 0)), (.d (.i .i64 0)), (.d (.i .i64 0)), (.d (.i .i64 0)), .nilsl, (.d (.i .i64 0)), (.d (.i .i64 0)), (.d (.i .u8 0)), (.d (.i .i64 0)), (.d (.i .i64 0)), (.d (.i .u8 0)), (.d (.i .i64 0)), (.d (.s [])), .nilsl]), u (.store 16 (t 7) (t 26))])
 (.reg [m 27 5, o 28 (.load true 16 (t 7)), o 29 (.callf 193 [(.c .nilsl), (t 28)]), o 30 (.bsl 58 1 1 [.nilsl] [(0, 1, (t 29))]), o 31 (.app 58 1 24 false (t 27) (t 30)), m 5 31])))
 (.reg [o 32 (b .add (t 23) (k 1)), m 23 32])))))))
 (.seq (.reg [m 33 4, m 34 5, o 35 (.callf 194 [(t 34)]), o 36 (.app 5 1 1 false (t 33) (t 35)), m 2 36, o 3 (.mv (k 0))])
 .ret)))))), false⟩
/-- slices.Chunk[[]byte,byte] -/
def a126 : AFn := ⟨9, [.tmp 4],
 (.seq (.reg [o 2 (.box 58 (t 0)), o 3 (.box 3 (t 1)), o 4 (.mv (.c (.d .nilf)))])
 (.seq (.seq (.reg [l 5 3, o 6 (b .lss (t 5) (k 1))])
 (.cond (t 6)
 (.reg [o 7 (.mkif 9 (.c (.d (.s [99, 97, 110, 110, 111, 116, 32, 98, 101, 32, 108, 101, 115, 115, 32, 116, 104, 97, 110, 32, 49])))), u (.panic (t 7))])
 .skip))
 (.seq (.reg [o 8 (.mkfn (.func 195) [] [(t 2), (t 3)]), m 4 8])
 .ret))), false⟩
/-- slices.IndexFunc[[][]byte,[]byte] -/
def a127 : AFn := ⟨19, [.tmp 4],
 (.seq (.reg [o 4 (.mv (k 0))])
 (.seq (.seq (.reg [m 6 0, o 7 (.len 1 (t 6)), o 8 (.mv (k 0))])
 (.blk 0 (.loop (.seq (.reg [o 9 (b .lss (t 8) (t 7))])
 (.seq (.cond (t 9)
 .skip
 (.exit 0))
 (.seq (.blk 1 (.seq (.reg [m 10 8, m 5 10])
 (.seq (.reg [m 11 1, m 12 0, m 13 5, o 14 (.iaS 1 (t 12) (t 13)), l 15 14, o 16 (.callv (t 11) [(t 15)])])
 (.cond (t 16)
 (.seq (.reg [m 17 5, m 4 17])
 .ret)
 .skip))))
 (.reg [o 18 (b .add (t 8) (k 1)), m 8 18])))))))
 (.seq (.reg [o 4 (.mv (k (-1)))])
 .ret))), false⟩
/-- (*foreman/graph.Graph).none -/
def a128 : AFn := ⟨12, [.tmp 2],
 (.seq (.reg [o 2 (.mv (.c (.d (.b false))))])
 (.seq (.reg [m 3 0, o 4 (.bin .eql .ptr (t 3) (.c (.d .nilp))), m 5 4, mg 6 0 5 false, og 7 (.nilchk (t 6)) 5 false, og 8 (.fadd 0 (t 7)) 5 false, lg 9 8 5 false, og 10 (.un .not (t 9)) 5 false, o 11 (.pick (t 5) (.c (.d (.b true))) (t 10)), m 2 11])
 .ret)), false⟩
/-- slices.ContainsFunc[[]foreman/api.Item,foreman/api.Item] -/
def a130 : AFn := ⟨9, [.tmp 4],
 (.seq (.reg [o 4 (.mv (.c (.d (.b false))))])
 (.seq (.reg [m 5 0, m 6 1, o 7 (.callf 196 [(t 5), (t 6)]), o 8 (b .geq (t 7) (k 0)), m 4 8])
 .ret)), false⟩
/-- foreman/frag.Right$1 -/
def a131 : AFn := ⟨6, [.tmp 2],
 (.seq (.reg [o 1 (.box 78 (t 0)), o 2 (.mv (.c (.d (.b false))))])
 (.seq (.reg [o 3 (.load true 6 (t 1)), o 4 (.callf 132 [(t 3)]), o 5 (.un .not (t 4)), m 2 5])
 .ret)), false⟩
/-- foreman/frag.fits -/
def a132 : AFn := ⟨44, [.tmp 2],
 (.seq (.reg [o 1 (.box 78 (t 0)), o 2 (.mv (.c (.d (.b false))))])
 (.seq (.seq (.reg [o 3 (.fadd 0 (t 1)), l 4 3, o 5 (.callf 197 [(t 4)]), o 6 (.un .not (t 5)), m 7 6, og 8 (.fadd 2 (t 1)) 7 false, lg 9 8 7 false, og 10 (.len 1 (t 9)) 7 false, og 11 (b .gtr (t 10) (k 20)) 7 false, o 12 (.pick (t 7) (.c (.d (.b true))) (t 11)), m 13 12, og 14 (.fadd 5 (t 1)) 13 false, lg 15 14 13 false, og 16 (.callf 198 [(t 15), (k 400)]) 13 false, og 17 (.un .not (t 16)) 13 false, o 18 (.pick (t 13) (.c (.d (.b true))) (t 17))])
 (.cond (t 18)
 (.seq (.reg [o 2 (.mv (.c (.d (.b false))))])
 .ret)
 .skip))
 (.seq (.seq (.reg [o 19 (.fadd 2 (t 1)), l 20 19, o 21 (.callf 199 [(t 20), (.c (.d (.fn (.func 200) [] [])))])])
 (.cond (t 21)
 (.seq (.reg [o 2 (.mv (.c (.d (.b false))))])
 .ret)
 .skip))
 (.seq (.seq (.reg [o 22 (.fadd 1 (t 1)), l 23 22])
 (.blk 0 (.seq (.reg [o 25 (b .eql (t 23) (.c (.d (.i .u8 0)))), m 24 25])
 (.cond (t 24)
 (.seq (.reg [o 26 (.fadd 3 (t 1)), l 27 26, o 28 (b .eql (t 27) (.c (.d (.s [])))), m 29 28, og 30 (.fadd 4 (t 1)) 29 true, lg 31 30 29 true, og 32 (b .eql (t 31) (k 0)) 29 true, o 33 (.pick (t 29) (t 32) (.c (.d (.b false)))), m 2 33])
 .ret)
 (.seq (.reg [o 35 (b .eql (t 23) (.c (.d (.i .u8 1)))), m 34 35])
 (.cond (t 34)
 (.seq (.reg [o 36 (.fadd 3 (t 1)), l 37 36, o 38 (.callf 197 [(t 37)]), m 39 38, og 40 (.fadd 4 (t 1)) 39 true, lg 41 40 39 true, og 42 (.callf 198 [(t 41), (k 40)]) 39 true, o 43 (.pick (t 39) (t 42) (.c (.d (.b false)))), m 2 43])
 .ret)
 .skip))))))
 (.seq (.reg [o 2 (.mv (.c (.d (.b false))))])
 .ret))))), false⟩
/-- foreman/op.ID$1 -/
def a133 : AFn := ⟨9, [.tmp 2],
 (.seq (.reg [o 2 (.mv (.c (.d (.b false))))])
 (.seq (.reg [m 3 0, o 4 (b .lss (t 3) (.c (.d (.i .i32 33)))), m 5 4, mg 6 0 5 false, og 7 (b .gtr (t 6) (.c (.d (.i .i32 126)))) 5 false, o 8 (.pick (t 5) (.c (.d (.b true))) (t 7)), m 2 8])
 .ret)), false⟩
/-- strings.ContainsFunc -/
def a134 : AFn := ⟨9, [.tmp 4],
 (.seq (.reg [o 4 (.mv (.c (.d (.b false))))])
 (.seq (.reg [m 5 0, m 6 1, o 7 (.callf 201 [(t 5), (t 6)]), o 8 (b .geq (t 7) (k 0)), m 4 8])
 .ret)), false⟩
/-- (*foreman/value.room).fits -/
def a135 : AFn := ⟨33, [.tmp 6],
 (.seq (.reg [o 3 (.box 222 (t 0)), o 4 (.box 24 (t 1)), o 5 (.box 3 (t 2)), o 6 (.mv (.c (.d (.b false))))])
 (.seq (.seq (.reg [l 7 3, o 8 (.nilchk (t 7)), o 9 (.fadd 0 (t 8)), l 10 9, o 11 (b .sub (t 10) (k 1)), o 12 (.nilchk (t 7)), o 13 (.fadd 0 (t 12)), u (.store 1 (t 13) (t 11))])
 (.seq (.reg [l 14 3, o 15 (.nilchk (t 14)), o 16 (.fadd 0 (t 15)), l 17 16, o 18 (b .lss (t 17) (k 0)), m 19 18, lg 20 5 19 false, og 21 (b .eql (t 20) (k 0)) 19 false, o 22 (.pick (t 19) (.c (.d (.b true))) (t 21)), m 23 22, og 24 (.load true 4 (t 4)) 23 false, og 25 (.callf 202 [(t 24)]) 23 false, og 26 (.un .not (t 25)) 23 false, o 27 (.pick (t 23) (.c (.d (.b true))) (t 26))])
 (.cond (t 27)
 (.seq (.reg [o 6 (.mv (.c (.d (.b false))))])
 .ret)
 .skip)))
 (.seq (.reg [o 28 (.fadd 3 (t 4)), l 29 28, o 30 (.mkfn (.func 204) [] [(t 3), (t 5)]), o 31 (.callf 203 [(t 29), (t 30)]), o 32 (.un .not (t 31)), m 6 32])
 .ret))), false⟩
/-- slices.EqualFunc[[]foreman/api.Value,[]foreman/api.Value,foreman/api.Value,foreman/api.Value] -/
def a136 : AFn := ⟨32, [.tmp 6],
 (.seq (.reg [o 6 (.mv (.c (.d (.b false))))])
 (.seq (.seq (.reg [m 10 0, o 11 (.len 1 (t 10)), m 12 1, o 13 (.len 1 (t 12)), o 14 (b .neq (t 11) (t 13))])
 (.cond (t 14)
 (.seq (.reg [o 6 (.mv (.c (.d (.b false))))])
 .ret)
 .skip))
 (.seq (.seq (.reg [m 15 0, o 16 (.len 1 (t 15)), o 17 (.mv (k 0))])
 (.blk 0 (.loop (.seq (.reg [o 18 (b .lss (t 17) (t 16))])
 (.seq (.cond (t 18)
 .skip
 (.exit 0))
 (.seq (.blk 1 (.seq (.reg [m 19 17, o 20 (.iaS 4 (t 15) (t 17)), o 21 (.load true 4 (t 20)), o 8 (.alloc 24 [(.d (.i .u8 0)), (.d (.i .i64 0)), (.d (.s [])), .nilsl]), m 7 19, u (.store 4 (t 8) (t 21))])
 (.seq (.reg [m 22 1, m 23 7, o 24 (.iaS 4 (t 22) (t 23)), o 25 (.load true 4 (t 24)), o 9 (.alloc 24 [(.d (.i .u8 0)), (.d (.i .i64 0)), (.d (.s [])), .nilsl]), u (.store 4 (t 9) (t 25))])
 (.seq (.reg [m 26 2, o 27 (.load true 4 (t 8)), o 28 (.load true 4 (t 9)), o 29 (.callv (t 26) [(t 27), (t 28)]), o 30 (.un .not (t 29))])
 (.cond (t 30)
 (.seq (.reg [o 6 (.mv (.c (.d (.b false))))])
 .ret)
 .skip)))))
 (.reg [o 31 (b .add (t 17) (k 1)), m 17 31])))))))
 (.seq (.reg [o 6 (.mv (.c (.d (.b true))))])
 .ret)))), false⟩
/-- foreman/check.Frag -/
def a137 : AFn := ⟨25, [.cell 10 false 1],
 (.seq (.reg [o 5 (.box 46 (t 0)), o 10 (.alloc 37 [(.d (.i .i64 0))])])
 (.seq (.seq (.reg [o 13 (.load true 5 (t 5)), m 14 1, m 15 2, m 16 3, m 17 4, o 18 (.build [(.d (.i .i64 0)), (.d (.i .i64 0)), (.d (.i .i64 0)), (.d (.i .i64 0)), (.d (.i .i64 0)), .nilsl, (.d (.i .i64 0)), (.d (.i .i64 0)), .nilsl] [(0, 5, (t 13)), (5, 1, (t 14)), (6, 1, (t 15)), (7, 1, (t 16)), (8, 1, (t 17))]), o 19 (.callf 205 [(t 18)])])
 (.blk 0 (.rfun (t 19) [20, 21] (.seq (.reg [m 11 20])
 (.reg [m 12 21])) (.blk 1 (.seq (.reg [m 22 12, o 23 (.callv (t 22) [])])
 (.cond (t 23)
 (.seq (.reg [m 24 11, u (.store 1 (t 10) (t 24))])
 .ret)
 .skip))))))
 (.seq (.reg [u (.store 1 (t 10) (k 0))])
 .ret))), false⟩
/-- foreman/build.Make -/
def a138 : AFn := ⟨109, [.tmp 8, .tmp 9],
 (.seq (.reg [o 4 (.box 49 (t 0)), o 6 (.box 3 (t 2)), o 7 (.box 25 (t 3)), o 8 (.mv (.c .nilsl)), o 9 (.mv (k 0))])
 (.seq (.seq (.reg [l 22 7, o 23 (.callf 86 [(t 22)]), o 24 (.un .not (t 23))])
 (.cond (t 24)
 (.seq (.reg [o 8 (.mv (.c .nilsl)), o 9 (.mv (k 2))])
 .ret)
 .skip))
 (.seq (.reg [o 10 (.alloc 37 [(.d (.i .i64 0))]), u (.store 1 (t 10) (k 0))])
 (.seq (.reg [o 25 (.mkfn (.func 206) [] [(t 4), (t 6), (t 7), (t 10)]), m 11 25])
 (.seq (.reg [o 12 (.mv (.c .nilsl))])
 (.seq (.reg [o 26 (.load true 8 (t 4)), m 27 1, l 28 6, o 29 (.callf 208 [(t 26), (t 27), (t 28)]), m 13 29])
 (.seq (.seq (.reg [l 30 7, o 31 (.len 1 (t 30)), o 32 (.mv (k 0))])
 (.blk 0 (.loop (.seq (.reg [o 33 (b .lss (t 32) (t 31))])
 (.seq (.cond (t 33)
 .skip
 (.exit 0))
 (.seq (.blk 1 (.seq (.reg [o 34 (.iaS 6 (t 30) (t 32)), o 35 (.load true 6 (t 34)), o 15 (.alloc 78 [(.d (.s [])), (.d (.i .u8 0)), .nilsl, (.d (.s [])), (.d (.i .i64 0)), (.d (.i .i64 0))]), u (.store 6 (t 15) (t 35))])
 (.seq (.dreg 1 [⟨m 36 13, 0, false, [], none⟩, ⟨o 37 (.fadd 0 (t 15)), 1, false, [], none⟩, ⟨l 38 37, 2, false, [], none⟩, ⟨o 39 (.callf 209 [(t 36), (t 38)]), 3, true, [], none⟩, ⟨o 40 (.fadd 0 (t 15)), 4, false, [], none⟩, ⟨l 41 40, 5, false, [], none⟩, ⟨o 42 (.fadd 1 (t 15)), 6, false, [], none⟩, ⟨l 43 42, 7, false, [], none⟩, ⟨m 44 1, 8, false, [], none⟩, ⟨l 45 6, 9, false, [], none⟩, ⟨o 46 (.fadd 4 (t 15)), 10, false, [], none⟩, ⟨l 47 46, 11, false, [], none⟩, ⟨o 48 (.fadd 5 (t 15)), 12, false, [], none⟩, ⟨l 49 48, 13, false, [], none⟩, ⟨o 50 (.build [(.d (.s [])), (.d (.s [])), (.d (.i .u8 0)), (.d (.i .i64 0)), (.d (.i .i64 0)), (.d (.i .i64 0)), .nilsl, (.d (.i .i64 0)), (.d (.i .i64 0)), (.d (.i .u8 0)), (.d (.i .i64 0)), (.d (.i .i64 0)), (.d (.i .u8 0)), (.d (.i .i64 0)), (.d (.s [])), .nilsl] [(0, 1, (t 39)), (1, 1, (t 41)), (2, 1, (t 43)), (3, 1, (t 44)), (4, 1, (t 45)), (5, 1, (k (-1))), (7, 1, (t 47)), (8, 1, (t 49))]), 14, false, [3], none⟩, ⟨o 16 (.alloc 83 [(.d (.s [])), (.d (.s [])), (.d (.i .u8 0)), (.d (.i .i64 0)), (.d (.i .i64 0)), (.d (.i .i64 0)), .nilsl, (.d (.i .i64 0)), (.d (.i .i64 0)), (.d (.i .u8 0)), (.d (.i .i64 0)), (.d (.i .i64 0)), (.d (.i .u8 0)), (.d (.i .i64 0)), (.d (.s [])), .nilsl]), 15, false, [], (some 0)⟩, ⟨u (.store 16 (t 16) (t 50)), 16, true, [], none⟩])
 (.seq (.seq (.reg [o 51 (.fadd 1 (t 15)), l 52 51, o 53 (b .eql (t 52) (.c (.d (.i .u8 1))))])
 (.cond (t 53)
 (.dreg 1 [⟨m 56 11, 2, false, [], none⟩, ⟨o 57 (.fadd 3 (t 15)), 3, false, [], none⟩, ⟨l 58 57, 4, false, [], none⟩, ⟨o 59 (.callv (t 56) [(t 58)]), 5, true, [], none⟩, ⟨o 54 (.fadd 6 (t 16)), 0, false, [], none⟩, ⟨l 55 54, 1, false, [], none⟩, ⟨o 60 (.bsl 3 1 1 [(.d (.i .i64 0))] [(0, 1, (t 59))]), 6, false, [], (some 0)⟩, ⟨o 61 (.app 3 1 8 false (t 55) (t 60)), 7, true, [], none⟩, ⟨o 62 (.fadd 6 (t 16)), 8, false, [7, 5], none⟩, ⟨u (.store 1 (t 62) (t 61)), 9, true, [], none⟩])
 .skip))
 (.seq (.seq (.reg [o 63 (.fadd 2 (t 15)), l 64 63, o 65 (.len 1 (t 64)), o 66 (.mv (k 0))])
 (.blk 2 (.loop (.seq (.reg [o 67 (b .lss (t 66) (t 65))])
 (.seq (.cond (t 67)
 .skip
 (.exit 2))
 (.seq (.blk 3 (.seq (.reg [o 68 (.iaS 1 (t 64) (t 66)), l 69 68, m 18 69])
 (.dreg 1 [⟨m 72 11, 2, false, [], none⟩, ⟨m 73 18, 3, false, [], none⟩, ⟨o 74 (.callv (t 72) [(t 73)]), 4, true, [], none⟩, ⟨o 70 (.fadd 6 (t 16)), 0, false, [], none⟩, ⟨l 71 70, 1, false, [], none⟩, ⟨o 75 (.bsl 3 1 1 [(.d (.i .i64 0))] [(0, 1, (t 74))]), 5, false, [], (some 0)⟩, ⟨o 76 (.app 3 1 8 false (t 71) (t 75)), 6, true, [], none⟩, ⟨o 77 (.fadd 6 (t 16)), 7, false, [6, 4], none⟩, ⟨u (.store 1 (t 77) (t 76)), 8, true, [], none⟩])))
 (.reg [o 78 (b .add (t 66) (k 1)), m 66 78])))))))
 (.reg [m 79 12, o 80 (.load true 16 (t 16)), o 81 (.bsl 83 16 1 [(.d (.s [])), (.d (.s [])), (.d (.i .u8 0)), (.d (.i .i64 0)), (.d (.i .i64 0)), (.d (.i .i64 0)), .nilsl, (.d (.i .i64 0)), (.d (.i .i64 0)), (.d (.i .u8 0)), (.d (.i .i64 0)), (.d (.i .i64 0)), (.d (.i .u8 0)), (.d (.i .i64 0)), (.d (.s [])), .nilsl] [(0, 16, (t 80))]), o 82 (.app 83 16 184 false (t 79) (t 81)), m 12 82]))))))
 (.reg [o 83 (b .add (t 32) (k 1)), m 32 83])))))))
 (.seq (.seq (.reg [l 84 10, o 85 (b .neq (t 84) (k 0))])
 (.cond (t 85)
 (.seq (.dreg 0 [⟨l 86 10, 0, false, [], none⟩, ⟨o 8 (.mv (.c .nilsl)), 1, false, [], none⟩, ⟨m 9 86, 2, false, [], none⟩])
 .ret)
 .skip))
 (.seq (.seq (.reg [m 87 12, o 88 (.len 1 (t 87)), o 89 (.mv (k 0))])
 (.blk 4 (.loop (.seq (.reg [o 90 (b .lss (t 89) (t 88))])
 (.seq (.cond (t 90)
 .skip
 (.exit 4))
 (.seq (.blk 5 (.seq (.reg [o 91 (.iaS 16 (t 87) (t 89)), o 92 (.load true 16 (t 91)), o 20 (.alloc 83 [(.d (.s [])), (.d (.s [])), (.d (.i .u8 0)), (.d (.i .i64 0)), (.d (.i .i64 0)), (.d (.i .i64 0)), .nilsl, (.d (.i .i64 0)), (.d (.i .i64 0)), (.d (.i .u8 0)), (.d (.i .i64 0)), (.d (.i .i64 0)), (.d (.i .u8 0)), (.d (.i .i64 0)), (.d (.s [])), .nilsl]), u (.store 16 (t 20) (t 92))])
 (.seq (.seq (.reg [o 93 (.fadd 2 (t 20)), l 94 93, o 95 (b .neq (t 94) (.c (.d (.i .u8 1))))])
 (.cond (t 95)
 (.exit 5)
 .skip))
 (.seq (.dreg 0 [⟨o 96 (.load true 8 (t 4)), 0, false, [], none⟩, ⟨o 97 (.fadd 6 (t 20)), 1, false, [], none⟩, ⟨l 98 97, 2, false, [], none⟩, ⟨o 99 (.iaS 1 (t 98) (k 0)), 3, false, [], none⟩, ⟨l 100 99, 4, false, [], none⟩, ⟨o 101 (.fadd 7 (t 20)), 5, false, [], none⟩, ⟨l 102 101, 6, false, [], none⟩, ⟨o 103 (.callf 210 [(t 96), (t 100), (t 102)]), 7, true, [], none⟩, ⟨m 21 103, 8, false, [7], none⟩])
 (.seq (.reg [m 104 21, o 105 (b .neq (t 104) (k 0))])
 (.cond (t 105)
 (.seq (.reg [m 106 21, o 8 (.mv (.c .nilsl)), m 9 106])
 .ret)
 .skip))))))
 (.reg [o 107 (b .add (t 89) (k 1)), m 89 107])))))))
 (.seq (.reg [m 108 12, m 8 108, o 9 (.mv (k 0))])
 .ret)))))))))), false⟩
/-- foreman/build.Put -/
def a139 : AFn := ⟨42, [.cell 6 true 8, .tmp 7],
 (.seq (.reg [o 4 (.box 49 (t 1)), o 6 (.alloc 49 [(.d (.i .i64 0)), (.d (.i .i64 0)), (.d (.i .i64 0)), (.d (.i .i64 0)), (.d (.i .i64 0)), (.d (.i .i64 0)), .nilsl, (.d (.i .i64 0))]), o 7 (.mv (k 0))])
 (.seq (.reg [o 11 (.load true 8 (t 4)), o 12 (.callf 51 [(t 11)]), o 8 (.alloc 49 [(.d (.i .i64 0)), (.d (.i .i64 0)), (.d (.i .i64 0)), (.d (.i .i64 0)), (.d (.i .i64 0)), (.d (.i .i64 0)), .nilsl, (.d (.i .i64 0))]), u (.store 8 (t 8) (t 12))])
 (.seq (.dreg 1 [⟨m 15 2, 2, false, [], none⟩, ⟨o 16 (.build [(.d (.i .i64 0)), (.d (.i .i64 0)), (.d (.i .i64 0)), (.d (.i .i64 0)), (.d (.i .i64 0)), (.d (.i .i64 0)), .nilsl, (.d (.i .i64 0))] [(6, 1, (t 15))]), 3, false, [], none⟩, ⟨o 17 (.callf 51 [(t 16)]), 4, true, [], none⟩, ⟨o 13 (.fadd 6 (t 8)), 0, false, [], none⟩, ⟨l 14 13, 1, false, [], none⟩, ⟨o 18 (.fld 6 false 1 (t 17)), 5, false, [4], none⟩, ⟨o 19 (.bsl 47 1 2 [.nilsl] [(0, 1, (t 14)), (1, 1, (t 18))]), 6, false, [], (some 0)⟩, ⟨o 20 (.callf 211 [(t 19)]), 7, true, [], none⟩, ⟨o 21 (.fadd 6 (t 8)), 8, false, [7, 4], none⟩, ⟨u (.store 1 (t 21) (t 20)), 9, true, [], none⟩])
 (.seq (.seq (.reg [m 23 0, m 24 2, o 25 (.len 1 (t 24)), o 26 (b .mul (k 2) (t 25)), o 27 (.fadd 6 (t 8)), l 28 27, o 29 (.fadd 6 (t 4)), l 30 29, o 31 (.len 1 (t 30)), o 32 (.callf 213 [(t 28), (t 31)]), o 33 (.callf 212 [(t 23), (t 26), (t 32)]), m 22 33, o 34 (.extr (t 22) 0), o 35 (.extr (t 22) 1), m 9 34, m 10 35])
 (.seq (.reg [m 36 10, o 37 (b .neq (t 36) (k 0))])
 (.cond (t 37)
 (.seq (.reg [o 38 (.load true 8 (t 4)), o 39 (.callf 51 [(t 38)]), m 40 10, u (.store 8 (t 6) (t 39)), m 7 40])
 .ret)
 .skip)))
 (.seq (.reg [o 41 (.load true 8 (t 8)), u (.store 8 (t 6) (t 41)), o 7 (.mv (k 0))])
 .ret))))), false⟩
/-- foreman/join.Settle -/
def a140 : AFn := ⟨22, [.cell 2 true 8],
 (.seq (.reg [o 1 (.box 49 (t 0)), o 2 (.alloc 49 [(.d (.i .i64 0)), (.d (.i .i64 0)), (.d (.i .i64 0)), (.d (.i .i64 0)), (.d (.i .i64 0)), (.d (.i .i64 0)), .nilsl, (.d (.i .i64 0))])])
 (.seq (.reg [o 4 (.load true 8 (t 1)), o 5 (.callf 156 [(t 4)]), u (.store 8 (t 1) (t 5))])
 (.seq (.seq (.reg [o 6 (.load true 8 (t 1)), o 7 (.callf 214 [(t 6)]), m 3 7])
 (.blk 0 (.loop (.seq (.seq (.reg [m 8 3, o 9 (.len 1 (t 8)), o 10 (b .gtr (t 9) (k 0))])
 (.cond (t 10)
 .skip
 (.exit 0)))
 (.seq (.blk 1 (.dreg 0 [⟨o 14 (.load true 8 (t 1)), 0, false, [], none⟩, ⟨m 15 3, 1, false, [], none⟩, ⟨o 16 (.iaS 1 (t 15) (k 0)), 2, false, [], none⟩, ⟨l 17 16, 3, false, [], none⟩, ⟨o 18 (.callf 215 [(t 14), (t 17)]), 4, true, [], none⟩, ⟨m 13 18, 5, false, [4], none⟩, ⟨o 19 (.extr (t 13) 0), 6, false, [4], none⟩, ⟨u (.store 8 (t 1) (t 19)), 8, true, [], none⟩, ⟨o 20 (.extr (t 13) 1), 7, false, [4], none⟩]))
 (.reg [o 11 (.load true 8 (t 1)), o 12 (.callf 214 [(t 11)]), m 3 12]))))))
 (.seq (.reg [o 21 (.load true 8 (t 1)), u (.store 8 (t 2) (t 21))])
 .ret)))), false⟩
/-- foreman/build.Grow -/
def a141 : AFn := ⟨41, [.tmp 4],
 (.seq (.reg [o 3 (.box 49 (t 1)), o 4 (.mv (k 0))])
 (.seq (.seq (.reg [m 8 0, o 9 (.callf 52 [(t 8)]), o 10 (.bin .eql .ptr (t 9) (.c (.d .nilp)))])
 (.cond (t 10)
 (.seq (.reg [o 4 (.mv (k 1))])
 .ret)
 .skip))
 (.seq (.reg [m 11 0, o 12 (.callf 216 [(t 11)]), m 5 12])
 (.seq (.seq (.reg [m 13 5, o 14 (b .rem (t 13) (k 2)), o 15 (b .eql (t 14) (k 1)), m 16 15, mg 17 5 16 false, og 18 (.fadd 6 (t 3)) 16 false, lg 19 18 16 false, og 20 (.len 1 (t 19)) 16 false, og 21 (b .mul (k 2) (t 20)) 16 false, og 22 (b .gtr (t 17) (t 21)) 16 false, o 23 (.pick (t 16) (.c (.d (.b true))) (t 22))])
 (.cond (t 23)
 (.seq (.reg [o 4 (.mv (k 2))])
 .ret)
 .skip))
 (.seq (.dreg 0 [⟨o 32 (.fadd 6 (t 3)), 7, false, [], none⟩, ⟨l 33 32, 8, false, [], none⟩, ⟨m 34 5, 9, false, [], none⟩, ⟨o 35 (b .quo (t 34) (k 2)), 10, false, [], none⟩, ⟨o 36 (.callf 213 [(t 33), (t 35)]), 11, true, [], none⟩, ⟨m 25 0, 0, false, [], none⟩, ⟨o 26 (.fadd 6 (t 3)), 1, false, [], none⟩, ⟨l 27 26, 2, false, [], none⟩, ⟨o 28 (.len 1 (t 27)), 3, false, [], none⟩, ⟨o 29 (b .mul (k 2) (t 28)), 4, false, [], none⟩, ⟨m 30 5, 5, false, [], none⟩, ⟨o 31 (b .sub (t 29) (t 30)), 6, false, [], none⟩, ⟨o 37 (.callf 212 [(t 25), (t 31), (t 36)]), 12, true, [], none⟩, ⟨m 24 37, 13, false, [12, 11], none⟩, ⟨o 38 (.extr (t 24) 0), 14, false, [12, 11], none⟩, ⟨o 39 (.extr (t 24) 1), 15, false, [12, 11], none⟩, ⟨m 6 38, 16, false, [12, 11], none⟩, ⟨m 7 39, 17, false, [12, 11], none⟩])
 (.seq (.reg [m 40 7, m 4 40])
 .ret)))))), false⟩
/-- foreman/flow.own -/
def a142 : AFn := ⟨33, [.tmp 6],
 (.seq (.reg [o 3 (.box 49 (t 0)), o 6 (.mv (.c .nilsl))])
 (.seq (.reg [o 7 (.mv (.c .nilsl))])
 (.seq (.seq (.reg [o 10 (.fadd 6 (t 3)), l 11 10, o 12 (.len 1 (t 11)), o 13 (.mv (k 0))])
 (.blk 0 (.loop (.seq (.reg [o 14 (b .lss (t 13) (t 12))])
 (.seq (.cond (t 14)
 .skip
 (.exit 0))
 (.seq (.blk 1 (.seq (.reg [o 15 (.iaS 16 (t 11) (t 13)), o 16 (.load true 16 (t 15)), o 9 (.alloc 83 [(.d (.s [])), (.d (.s [])), (.d (.i .u8 0)), (.d (.i .i64 0)), (.d (.i .i64 0)), (.d (.i .i64 0)), .nilsl, (.d (.i .i64 0)), (.d (.i .i64 0)), (.d (.i .u8 0)), (.d (.i .i64 0)), (.d (.i .i64 0)), (.d (.i .u8 0)), (.d (.i .i64 0)), (.d (.s [])), .nilsl]), u (.store 16 (t 9) (t 16))])
 (.seq (.reg [o 17 (.fadd 3 (t 9)), l 18 17, m 19 1, o 20 (b .eql (t 18) (t 19)), m 21 20, og 22 (.fadd 4 (t 9)) 21 true, lg 23 22 21 true, mg 24 2 21 true, og 25 (b .eql (t 23) (t 24)) 21 true, o 26 (.pick (t 21) (t 25) (.c (.d (.b false))))])
 (.cond (t 26)
 (.reg [m 27 7, o 28 (.load true 16 (t 9)), o 29 (.bsl 83 16 1 [(.d (.s [])), (.d (.s [])), (.d (.i .u8 0)), (.d (.i .i64 0)), (.d (.i .i64 0)), (.d (.i .i64 0)), .nilsl, (.d (.i .i64 0)), (.d (.i .i64 0)), (.d (.i .u8 0)), (.d (.i .i64 0)), (.d (.i .i64 0)), (.d (.i .u8 0)), (.d (.i .i64 0)), (.d (.s [])), .nilsl] [(0, 16, (t 28))]), o 30 (.app 83 16 184 false (t 27) (t 29)), m 7 30])
 .skip))))
 (.reg [o 31 (b .add (t 13) (k 1)), m 13 31])))))))
 (.seq (.reg [m 32 7, m 6 32])
 .ret)))), false⟩
/-- foreman/flow.all -/
def a143 : AFn := ⟨9, [.tmp 4],
 (.seq (.reg [o 3 (.box 179 (t 1)), o 4 (.mv (.c (.d (.b false))))])
 (.seq (.reg [m 5 0, o 6 (.mkfn (.func 218) [] [(t 3)]), o 7 (.callf 217 [(t 5), (t 6)]), o 8 (.un .not (t 7)), m 4 8])
 .ret)), false⟩
/-- foreman/flow.not -/
def a144 : AFn := ⟨4, [.tmp 2],
 (.seq (.reg [o 1 (.box 179 (t 0)), o 2 (.mv (.c (.d .nilf)))])
 (.seq (.reg [o 3 (.mkfn (.func 219) [] [(t 1)]), m 2 3])
 .ret)), false⟩
/-- foreman/flow.is -/
def a145 : AFn := ⟨4, [.tmp 2],
 (.seq (.reg [o 1 (.box 5 (t 0)), o 2 (.mv (.c (.d .nilf)))])
 (.seq (.reg [o 3 (.mkfn (.func 220) [] [(t 1)]), m 2 3])
 .ret)), false⟩
/-- foreman/fan.place -/
def a146 : AFn := ⟨13, [.tmp 4],
 (.seq (.reg [o 4 (.mv (.c (.d (.b false))))])
 (.seq (.reg [m 5 1, o 6 (b .geq (t 5) (k 0)), m 7 6, mg 8 1 7 true, mg 9 0 7 true, og 10 (.len 1 (t 9)) 7 true, og 11 (b .lss (t 8) (t 10)) 7 true, o 12 (.pick (t 7) (t 11) (.c (.d (.b false)))), m 4 12])
 .ret)), false⟩
/-- strings.SplitSeq -/
def a150 : AFn := ⟨8, [.tmp 4],
 (.seq (.reg [o 4 (.mv (.c (.d .nilf)))])
 (.seq (.reg [m 5 0, m 6 1, o 7 (.callf 223 [(t 5), (t 6), (k 0)]), m 4 7])
 .ret)), true⟩
/-- foreman/ident.number -/
def a151 : AFn := ⟨24, [.tmp 2],
 (.seq (.reg [o 2 (.mv (k 0))])
 (.seq (.reg [m 6 0, o 7 (.callf 224 [(t 6)]), m 5 7, o 8 (.extr (t 5) 0), o 9 (.extr (t 5) 1), m 3 8, m 4 9])
 (.seq (.seq (.reg [m 10 4, o 11 (.bin .neq .iface (t 10) (.c (.d .nili))), m 12 11, mg 13 3 12 false, og 14 (.callf 225 [(t 13)]) 12 false, og 15 (.un .not (t 14)) 12 false, o 16 (.pick (t 12) (.c (.d (.b true))) (t 15)), m 17 16, mg 18 3 17 false, og 19 (.callf 226 [(t 18)]) 17 false, mg 20 0 17 false, og 21 (b .neq (t 19) (t 20)) 17 false, o 22 (.pick (t 17) (.c (.d (.b true))) (t 21))])
 (.cond (t 22)
 (.seq (.reg [o 2 (.mv (k (-1)))])
 .ret)
 .skip))
 (.seq (.reg [m 23 3, m 2 23])
 .ret)))), false⟩
/-- slices.IndexFunc[[]foreman/api.Node,foreman/api.Node] -/
def a154 : AFn := ⟨19, [.tmp 4],
 (.seq (.reg [o 4 (.mv (k 0))])
 (.seq (.seq (.reg [m 6 0, o 7 (.len 1 (t 6)), o 8 (.mv (k 0))])
 (.blk 0 (.loop (.seq (.reg [o 9 (b .lss (t 8) (t 7))])
 (.seq (.cond (t 9)
 .skip
 (.exit 0))
 (.seq (.blk 1 (.seq (.reg [m 10 8, m 5 10])
 (.seq (.reg [m 11 1, m 12 0, m 13 5, o 14 (.iaS 16 (t 12) (t 13)), o 15 (.load true 16 (t 14)), o 16 (.callv (t 11) [(t 15)])])
 (.cond (t 16)
 (.seq (.reg [m 17 5, m 4 17])
 .ret)
 .skip))))
 (.reg [o 18 (b .add (t 8) (k 1)), m 8 18])))))))
 (.seq (.reg [o 4 (.mv (k (-1)))])
 .ret))), false⟩
/-- foreman/flow.Find$1 -/
def a155 : AFn := ⟨8, [.tmp 3],
 (.seq (.reg [o 2 (.box 83 (t 0)), o 3 (.mv (.c (.d (.b false))))])
 (.seq (.reg [o 4 (.fadd 0 (t 2)), l 5 4, l 6 1, o 7 (b .eql (t 5) (t 6)), m 3 7])
 .ret)), false⟩
/-- foreman/join.own -/
def a156 : AFn := ⟨37, [.cell 2 true 8],
 (.seq (.reg [o 1 (.box 49 (t 0)), o 2 (.alloc 49 [(.d (.i .i64 0)), (.d (.i .i64 0)), (.d (.i .i64 0)), (.d (.i .i64 0)), (.d (.i .i64 0)), (.d (.i .i64 0)), .nilsl, (.d (.i .i64 0))])])
 (.seq (.reg [o 5 (.fadd 6 (t 1)), l 6 5, o 7 (.clone 79 83 16 184 true (t 6)), o 8 (.fadd 6 (t 1)), u (.store 1 (t 8) (t 7))])
 (.seq (.seq (.reg [o 9 (.fadd 6 (t 1)), l 10 9, o 11 (.len 1 (t 10)), o 12 (.mv (k 0))])
 (.blk 0 (.loop (.seq (.reg [o 13 (b .lss (t 12) (t 11))])
 (.seq (.cond (t 13)
 .skip
 (.exit 0))
 (.seq (.blk 1 (.seq (.reg [m 14 12, m 3 14])
 (.seq (.reg [o 15 (.fadd 6 (t 1)), l 16 15, m 17 3, o 18 (.iaS 16 (t 16) (t 17)), m 4 18])
 (.dreg 0 [⟨m 21 4, 2, false, [], none⟩, ⟨o 22 (.nilchk (t 21)), 3, false, [], none⟩, ⟨o 23 (.fadd 6 (t 22)), 4, false, [], none⟩, ⟨l 24 23, 5, false, [], none⟩, ⟨o 25 (.clone 80 3 1 8 false (t 24)), 6, true, [], none⟩, ⟨m 26 4, 7, false, [], none⟩, ⟨o 27 (.nilchk (t 26)), 8, false, [], none⟩, ⟨o 28 (.fadd 12 (t 27)), 9, false, [], none⟩, ⟨o 29 (.load true 4 (t 28)), 10, false, [], none⟩, ⟨o 30 (.callf 81 [(t 29)]), 11, true, [], none⟩, ⟨m 19 4, 0, false, [], none⟩, ⟨o 31 (.nilchk (t 19)), 12, false, [11, 6], none⟩, ⟨o 32 (.fadd 6 (t 31)), 13, false, [11, 6], none⟩, ⟨u (.store 1 (t 32) (t 25)), 14, true, [], none⟩, ⟨m 20 4, 1, false, [], none⟩, ⟨o 33 (.nilchk (t 20)), 15, false, [14, 11, 6], none⟩, ⟨o 34 (.fadd 12 (t 33)), 16, false, [14, 11, 6], none⟩, ⟨u (.store 4 (t 34) (t 30)), 17, true, [], none⟩]))))
 (.reg [o 35 (b .add (t 12) (k 1)), m 12 35])))))))
 (.seq (.reg [o 36 (.load true 8 (t 1)), u (.store 8 (t 2) (t 36))])
 .ret)))), false⟩
/-- foreman/join.is -/
def a157 : AFn := ⟨14, [.tmp 4],
 (.seq (.reg [o 2 (.box 49 (t 0)), o 4 (.mv (.c (.d (.b false))))])
 (.seq (.reg [m 5 1, o 6 (b .geq (t 5) (k 0)), m 7 6, mg 8 1 7 true, og 9 (.fadd 6 (t 2)) 7 true, lg 10 9 7 true, og 11 (.len 1 (t 10)) 7 true, og 12 (b .lss (t 8) (t 11)) 7 true, o 13 (.pick (t 7) (t 12) (.c (.d (.b false)))), m 4 13])
 .ret)), false⟩
/-- foreman/rec.kind -/
def a159 : AFn := ⟨9, [.tmp 2],
 (.seq (.reg [o 2 (.mv (.c (.d (.b false))))])
 (.seq (.reg [m 3 0, o 4 (b .geq (t 3) (.c (.d (.i .u8 1)))), m 5 4, mg 6 0 5 true, og 7 (b .leq (t 6) (.c (.d (.i .u8 2)))) 5 true, o 8 (.pick (t 5) (t 7) (.c (.d (.b false)))), m 2 8])
 .ret)), false⟩
/-- foreman/rec.four -/
def a160 : AFn := ⟨15, [.tmp 2],
 (.seq (.reg [o 2 (.mv (.c .nilsl))])
 (.seq (.reg [m 3 0, o 4 (.cvi .u8 (t 3)), m 5 0, o 6 (b .shr (t 5) (.c (.d (.i .u64 8)))), o 7 (.cvi .u8 (t 6)), m 8 0, o 9 (b .shr (t 8) (.c (.d (.i .u64 16)))), o 10 (.cvi .u8 (t 9)), m 11 0, o 12 (b .shr (t 11) (.c (.d (.i .u64 24)))), o 13 (.cvi .u8 (t 12)), o 14 (.bsl 5 1 4 [(.d (.i .u8 0))] [(0, 1, (t 4)), (1, 1, (t 7)), (2, 1, (t 10)), (3, 1, (t 13))]), m 2 14])
 .ret)), false⟩
/-- foreman/crc.Sum -/
def a161 : AFn := ⟨12, [.tmp 2],
 (.seq (.reg [o 2 (.mv (.c (.d (.i .u32 0))))])
 (.seq (.reg [o 3 (.alloc 255 [(.d (.i .u32 0))]), u (.store 1 (t 3) (.c (.d (.i .u32 0))))])
 (.seq (.seq (.reg [m 5 0, o 6 (.callf 232 [(t 5)])])
 (.blk 0 (.rfun (t 6) [7] (.reg [m 4 7]) (.blk 1 (.reg [l 8 3, m 9 4, o 10 (.callf 233 [(t 8), (t 9)]), u (.store 1 (t 3) (t 10))])))))
 (.seq (.reg [l 11 3, m 2 11])
 .ret)))), false⟩
/-- (*foreman/disk.Disk).Append$1 -/
def a162 : AFn := ⟨25, [],
 (.dreg 0 [⟨l 7 1, 2, false, [], none⟩, ⟨l 8 2, 3, false, [], none⟩, ⟨o 9 (.nilchk (t 7)), 4, false, [], none⟩, ⟨o 10 (.fadd 2 (t 9)), 5, false, [], none⟩, ⟨o 11 (.iaA 2 2 (t 10) (t 8)), 6, false, [], none⟩, ⟨o 12 (.fadd 0 (t 11)), 7, false, [], none⟩, ⟨l 13 12, 8, false, [], none⟩, ⟨l 14 3, 9, false, [], none⟩, ⟨m 15 0, 10, false, [], none⟩, ⟨l 16 3, 11, false, [], none⟩, ⟨o 17 (.len 1 (t 16)), 12, false, [], none⟩, ⟨o 18 (.mn [(t 15), (t 17)]), 13, false, [], none⟩, ⟨o 19 (.slSl 1 (t 14) none (some (t 18)) none), 14, false, [], none⟩, ⟨o 20 (.app 5 1 1 false (t 13) (t 19)), 15, true, [], none⟩, ⟨l 5 1, 0, false, [], none⟩, ⟨l 6 2, 1, false, [], none⟩, ⟨o 21 (.nilchk (t 5)), 16, false, [], none⟩, ⟨o 22 (.fadd 2 (t 21)), 17, false, [], none⟩, ⟨o 23 (.iaA 2 2 (t 22) (t 6)), 18, false, [15], none⟩, ⟨o 24 (.fadd 0 (t 23)), 19, false, [15], none⟩, ⟨u (.store 1 (t 24) (t 20)), 20, true, [], none⟩]), false⟩
/-- (*foreman/disk.Disk).Append$2 -/
def a163 : AFn := ⟨6, [],
 (.reg [l 2 0, l 3 1, o 4 (.len 1 (t 3)), o 5 (.callv (t 2) [(t 4)])]), false⟩
/-- (*foreman/disk.Disk).Sync$1 -/
def a164 : AFn := ⟨9, [],
 (.dreg 0 [⟨l 1 0, 0, false, [], none⟩, ⟨l 2 0, 1, false, [], none⟩, ⟨o 3 (.nilchk (t 2)), 2, false, [], none⟩, ⟨o 4 (.fadd 0 (t 3)), 3, false, [], none⟩, ⟨l 5 4, 4, false, [], none⟩, ⟨o 6 (.len 1 (t 5)), 5, false, [], none⟩, ⟨o 7 (.nilchk (t 1)), 6, false, [], none⟩, ⟨o 8 (.fadd 1 (t 7)), 7, false, [], none⟩, ⟨u (.store 1 (t 8) (t 6)), 8, true, [], none⟩]), false⟩
/-- foreman/head.Bytes -/
def a165 : AFn := ⟨24, [.tmp 2, .tmp 3],
 (.seq (.reg [o 1 (.box 94 (t 0)), o 2 (.mv (.c .nilsl)), o 3 (.mv (k 0))])
 (.seq (.seq (.reg [o 5 (.load true 3 (t 1)), o 6 (.callf 234 [(t 5)]), o 7 (.un .not (t 6))])
 (.cond (t 7)
 (.seq (.reg [o 2 (.mv (.c .nilsl)), o 3 (.mv (k 50))])
 .ret)
 .skip))
 (.seq (.reg [o 4 (.alloc 62 [(.d (.i .u8 0)), (.d (.i .u8 0)), (.d (.i .u8 0)), (.d (.i .u8 0)), (.d (.i .u8 0)), (.d (.i .u8 0)), (.d (.i .u8 0)), (.d (.i .u8 0)), (.d (.i .u8 0)), (.d (.i .u8 0)), (.d (.i .u8 0)), (.d (.i .u8 0)), (.d (.i .u8 0)), (.d (.i .u8 0)), (.d (.i .u8 0)), (.d (.i .u8 0)), (.d (.i .u8 0)), (.d (.i .u8 0)), (.d (.i .u8 0)), (.d (.i .u8 0)), (.d (.i .u8 0)), (.d (.i .u8 0)), (.d (.i .u8 0)), (.d (.i .u8 0)), (.d (.i .u8 0)), (.d (.i .u8 0)), (.d (.i .u8 0)), (.d (.i .u8 0)), (.d (.i .u8 0)), (.d (.i .u8 0)), (.d (.i .u8 0)), (.d (.i .u8 0))])])
 (.seq (.dreg 0 [⟨o 8 (.slArr 32 1 (t 4) none none none), 0, false, [], none⟩, ⟨o 9 (.fadd 0 (t 1)), 1, false, [], none⟩, ⟨l 10 9, 2, false, [], none⟩, ⟨o 11 (.callf 235 [(t 8), (k 0), (t 10)]), 3, true, [], none⟩])
 (.seq (.dreg 0 [⟨o 12 (.slArr 32 1 (t 4) none none none), 0, false, [], none⟩, ⟨o 13 (.fadd 1 (t 1)), 1, false, [], none⟩, ⟨l 14 13, 2, false, [], none⟩, ⟨o 15 (.callf 235 [(t 12), (k 8), (t 14)]), 3, true, [], none⟩])
 (.seq (.reg [o 16 (.fadd 2 (t 1)), l 17 16, o 18 (.iaA 32 1 (t 4) (k 16)), u (.store 1 (t 18) (t 17))])
 (.seq (.dreg 0 [⟨o 19 (.slArr 32 1 (t 4) none none none), 0, false, [], none⟩, ⟨o 20 (.fadd 0 (t 1)), 1, false, [], none⟩, ⟨l 21 20, 2, false, [], none⟩, ⟨o 22 (.callf 235 [(t 19), (k 24), (t 21)]), 3, true, [], none⟩])
 (.seq (.reg [o 23 (.slArr 32 1 (t 4) none none none), m 2 23, o 3 (.mv (k 0))])
 .ret)))))))), false⟩
/-- (*foreman/disk.Disk).Write -/
def a166 : AFn := ⟨32, [.tmp 6],
 (.seq (.reg [o 5 (.box 58 (t 2)), o 6 (.mv (k 0))])
 (.seq (.seq (.reg [m 9 0, o 10 (.callf 37 [(t 9)]), m 7 10])
 (.blk 0 (.seq (.reg [m 12 7, o 13 (b .neq (t 12) (k 0)), m 11 13])
 (.cond (t 11)
 (.seq (.reg [m 14 7, m 6 14])
 .ret)
 (.seq (.reg [m 16 1, o 17 (.callf 114 [(t 16)]), o 18 (.un .not (t 17)), m 19 18, lg 20 5 19 false, og 21 (.len 1 (t 20)) 19 false, og 22 (b .neq (t 21) (k 32)) 19 false, o 23 (.pick (t 19) (.c (.d (.b true))) (t 22)), m 15 23])
 (.cond (t 15)
 (.seq (.reg [o 6 (.mv (k 2))])
 .ret)
 .skip))))))
 (.seq (.reg [m 24 0, m 25 1, o 26 (.nilchk (t 24)), o 27 (.fadd 6 (t 26)), o 28 (.iaA 2 65 (t 27) (t 25)), o 8 (.alloc 99 [(.d .nilp)]), u (.store 1 (t 8) (t 28))])
 (.seq (.reg [m 29 0, o 30 (.mkfn (.func 236) [] [(t 8), (t 5)]), o 31 (.callf 38 [(t 29), (t 30), (.c (.d (.fn (.func 40) [] [])))]), m 6 31])
 .ret)))), false⟩
/-- foreman/head.slot -/
def a167 : AFn := ⟨7, [.tmp 2],
 (.seq (.reg [o 1 (.box 94 (t 0)), o 2 (.mv (k 0))])
 (.seq (.reg [o 3 (.fadd 0 (t 1)), l 4 3, o 5 (b .rem (t 4) (.c (.d (.i .u64 2)))), o 6 (.cvi .i64 (t 5)), m 2 6])
 .ret)), false⟩
/-- (*foreman/disk.Disk).Truncate$1 -/
def a168 : AFn := ⟨21, [],
 (.dreg 0 [⟨l 2 0, 0, false, [], none⟩, ⟨l 4 0, 2, false, [], none⟩, ⟨o 5 (.nilchk (t 4)), 3, false, [], none⟩, ⟨o 6 (.fadd 0 (t 5)), 4, false, [], none⟩, ⟨l 7 6, 5, false, [], none⟩, ⟨l 8 1, 6, false, [], none⟩, ⟨l 9 1, 7, false, [], none⟩, ⟨o 10 (.slSl 1 (t 7) none (some (t 8)) (some (t 9))), 8, false, [], none⟩, ⟨l 11 0, 9, false, [], none⟩, ⟨o 12 (.nilchk (t 11)), 10, false, [], none⟩, ⟨o 13 (.fadd 1 (t 12)), 11, false, [], none⟩, ⟨l 14 13, 12, false, [], none⟩, ⟨o 17 (.nilchk (t 2)), 15, false, [], none⟩, ⟨o 18 (.fadd 0 (t 17)), 16, false, [], none⟩, ⟨u (.store 1 (t 18) (t 10)), 17, true, [], none⟩, ⟨l 3 0, 1, false, [], none⟩, ⟨l 15 1, 13, false, [], none⟩, ⟨o 16 (.mn [(t 14), (t 15)]), 14, false, [], none⟩, ⟨o 19 (.nilchk (t 3)), 18, false, [17], none⟩, ⟨o 20 (.fadd 1 (t 19)), 19, false, [17], none⟩, ⟨u (.store 1 (t 20) (t 16)), 20, true, [], none⟩]), false⟩
/-- foreman/snap.Right -/
def a169 : AFn := ⟨22, [.tmp 2],
 (.seq (.reg [o 1 (.box 49 (t 0)), o 2 (.mv (.c (.d (.b false))))])
 (.seq (.reg [o 3 (.callf 192 [(t 1)]), o 4 (.callf 237 [(t 3)]), m 5 4, og 6 (.fadd 7 (t 1)) 5 true, lg 7 6 5 true, og 8 (b .geq (t 7) (k 0)) 5 true, o 9 (.pick (t 5) (t 8) (.c (.d (.b false)))), m 10 9, og 11 (.fadd 6 (t 1)) 10 true, lg 12 11 10 true, og 13 (.len 1 (t 12)) 10 true, og 14 (b .leq (t 13) (k 4800)) 10 true, o 15 (.pick (t 10) (t 14) (.c (.d (.b false)))), m 16 15, og 17 (.fadd 6 (t 1)) 16 true, lg 18 17 16 true, og 19 (.callf 217 [(t 18), (.c (.d (.fn (.func 238) [] [])))]) 16 true, og 20 (.un .not (t 19)) 16 true, o 21 (.pick (t 16) (t 20) (.c (.d (.b false)))), m 2 21])
 .ret)), false⟩
/-- (*foreman/flow.judge).owners -/
def a170 : AFn := ⟨14, [.tmp 2],
 (.seq (.reg [o 1 (.box 262 (t 0)), o 2 (.mv (.c (.d (.b false))))])
 (.seq (.reg [l 3 1, o 4 (.nilchk (t 3)), o 5 (.fadd 0 (t 4)), o 6 (.fadd 6 (t 5)), l 7 6, o 8 (.callf 240 [(t 7)]), m 9 8, lg 10 1 9 true, og 11 (.mkfn (.func 242) [] [(t 1)]) 9 true, og 12 (.callf 241 [(t 10), (t 11)]) 9 true, o 13 (.pick (t 9) (t 12) (.c (.d (.b false)))), m 2 13])
 .ret)), false⟩
/-- (*foreman/flow.judge).ids -/
def a171 : AFn := ⟨8, [.tmp 2],
 (.seq (.reg [o 1 (.box 262 (t 0)), o 2 (.mv (.c (.d (.b false))))])
 (.seq (.reg [o 4 .mkmap, o 3 (.alloc 332 [(.d .nilm)]), u (.store 1 (t 3) (t 4))])
 (.seq (.reg [l 5 1, o 6 (.mkfn (.func 243) [] [(t 1), (t 3)]), o 7 (.callf 241 [(t 5), (t 6)]), m 2 7])
 .ret))), false⟩
/-- (*foreman/flow.judge).kinds -/
def a172 : AFn := ⟨6, [.tmp 2],
 (.seq (.reg [o 1 (.box 262 (t 0)), o 2 (.mv (.c (.d (.b false))))])
 (.seq (.reg [l 3 1, o 4 (.mkfn (.func 246) [] [(t 1)]), o 5 (.callf 241 [(t 3), (t 4)]), m 2 5])
 .ret)), false⟩
/-- (*foreman/flow.judge).places -/
def a173 : AFn := ⟨12, [.tmp 2],
 (.seq (.reg [o 1 (.box 262 (t 0)), o 2 (.mv (.c (.d (.b false))))])
 (.seq (.reg [l 4 1, o 5 (.mkfn (.func 248) [] [(t 1)]), o 6 (.callf 241 [(t 4), (t 5)]), m 3 6])
 (.seq (.reg [m 7 3, m 8 7, lg 9 1 8 true, og 10 (.callf 250 [(t 9)]) 8 true, o 11 (.pick (t 8) (t 10) (.c (.d (.b false)))), m 2 11])
 .ret))), false⟩
/-- (*foreman/flow.judge).limits -/
def a174 : AFn := ⟨13, [.tmp 2],
 (.seq (.reg [o 1 (.box 262 (t 0)), o 2 (.mv (.c (.d (.b false))))])
 (.seq (.reg [l 4 1, o 5 (.mkfn (.func 251) [] [(t 1)]), o 6 (.callf 241 [(t 4), (t 5)]), m 3 6])
 (.seq (.reg [m 7 3, m 8 7, lg 9 1 8 true, og 10 (.mkfn (.func 255) [] [(t 1)]) 8 true, og 11 (.callf 254 [(t 9), (t 10)]) 8 true, o 12 (.pick (t 8) (t 11) (.c (.d (.b false)))), m 2 12])
 .ret))), false⟩
/-- (*foreman/flow.judge).tokens -/
def a175 : AFn := ⟨16, [.tmp 2],
 (.seq (.reg [o 1 (.box 262 (t 0)), o 2 (.mv (.c (.d (.b false))))])
 (.seq (.reg [o 4 .mkmap, o 3 (.alloc 340 [(.d .nilm)]), u (.store 1 (t 3) (t 4))])
 (.seq (.reg [l 5 1, o 6 (.nilchk (t 5)), o 7 (.fadd 0 (t 6)), o 8 (.fadd 7 (t 7)), l 9 8, o 10 (b .leq (t 9) (k 4611686018427387904)), m 11 10, lg 12 1 11 true, og 13 (.mkfn (.func 256) [] [(t 3), (t 1)]) 11 true, og 14 (.callf 241 [(t 12), (t 13)]) 11 true, o 15 (.pick (t 11) (t 14) (.c (.d (.b false)))), m 2 15])
 .ret))), false⟩
/-- (*foreman/flow.judge).failures -/
def a176 : AFn := ⟨6, [.tmp 2],
 (.seq (.reg [o 1 (.box 262 (t 0)), o 2 (.mv (.c (.d (.b false))))])
 (.seq (.reg [l 3 1, o 4 (.mkfn (.func 257) [] [(t 1)]), o 5 (.callf 241 [(t 3), (t 4)]), m 2 5])
 .ret)), false⟩
/-- (*foreman/flow.judge).waits -/
def a177 : AFn := ⟨6, [.tmp 2],
 (.seq (.reg [o 1 (.box 262 (t 0)), o 2 (.mv (.c (.d (.b false))))])
 (.seq (.reg [l 3 1, o 4 (.mkfn (.func 258) [] [(t 1)]), o 5 (.callf 241 [(t 3), (t 4)]), m 2 5])
 .ret)), false⟩
/-- (*foreman/flow.judge).holds -/
def a178 : AFn := ⟨14, [.tmp 2],
 (.seq (.reg [o 1 (.box 262 (t 0)), o 2 (.mv (.c (.d (.b false))))])
 (.seq (.reg [o 3 (.alloc 179 [(.d .nilf)]), u (.store 1 (t 3) (.c (.d (.fn (.func 260) [] []))))])
 (.seq (.reg [l 5 1, o 6 (.mkfn (.func 261) [] [(t 1), (t 3)]), o 7 (.callf 241 [(t 5), (t 6)]), m 4 7])
 (.seq (.reg [m 8 4, m 9 8, lg 10 1 9 true, og 11 (.mkfn (.func 262) [] [(t 1), (t 3)]) 9 true, og 12 (.callf 254 [(t 10), (t 11)]) 9 true, o 13 (.pick (t 9) (t 12) (.c (.d (.b false)))), m 2 13])
 .ret)))), false⟩
/-- (*foreman/flow.judge).values -/
def a179 : AFn := ⟨6, [.tmp 2],
 (.seq (.reg [o 1 (.box 262 (t 0)), o 2 (.mv (.c (.d (.b false))))])
 (.seq (.reg [l 3 1, o 4 (.mkfn (.func 263) [] [(t 1)]), o 5 (.callf 241 [(t 3), (t 4)]), m 2 5])
 .ret)), false⟩
/-- foreman/order.New -/
def a180 : AFn := ⟨25, [.tmp 2, .tmp 3],
 (.seq (.reg [o 2 (.mv (.c (.d .nilp))), o 3 (.mv (k 0))])
 (.seq (.reg [o 9 (.callf 264 [(k 0)]), m 8 9, o 10 (.extr (t 8) 0), o 11 (.extr (t 8) 1), m 4 10, m 5 11])
 (.seq (.seq (.reg [m 12 5, o 13 (b .neq (t 12) (k 0))])
 (.cond (t 13)
 (.seq (.reg [m 14 5, o 2 (.mv (.c (.d .nilp))), m 3 14])
 .ret)
 .skip))
 (.seq (.reg [m 15 4, o 16 (.build [(.d .nilp), .nilsl, .nilsl] [(0, 1, (t 15))]), o 17 (.box 153 (t 16)), m 6 17])
 (.seq (.seq (.reg [m 18 6, m 19 0, o 20 (.callf 265 [(t 18), (t 19)]), m 7 20])
 (.seq (.reg [m 21 7, o 22 (b .neq (t 21) (k 0))])
 (.cond (t 22)
 (.seq (.reg [m 23 7, o 2 (.mv (.c (.d .nilp))), m 3 23])
 .ret)
 .skip)))
 (.seq (.reg [m 24 6, m 2 24, o 3 (.mv (k 0))])
 .ret)))))), true⟩
/-- foreman/head.Read -/
def a181 : AFn := ⟨34, [.cell 2 true 3, .tmp 3],
 (.seq (.reg [o 2 (.alloc 94 [(.d (.i .u64 0)), (.d (.i .u64 0)), (.d (.i .u8 0))]), o 3 (.mv (.c (.d (.b false))))])
 (.seq (.seq (.reg [m 7 0, o 8 (.len 1 (t 7)), o 9 (b .neq (t 8) (k 32))])
 (.cond (t 9)
 (.seq (.reg [o 10 (.build [(.d (.i .u64 0)), (.d (.i .u64 0)), (.d (.i .u8 0))] []), u (.store 3 (t 2) (t 10)), o 3 (.mv (.c (.d (.b false))))])
 .ret)
 .skip))
 (.seq (.dreg 1 [⟨m 11 0, 0, false, [], none⟩, ⟨o 12 (.callf 266 [(t 11), (k 0)]), 1, true, [], none⟩, ⟨m 13 0, 2, false, [], none⟩, ⟨o 14 (.callf 266 [(t 13), (k 8)]), 3, true, [], none⟩, ⟨m 15 0, 4, false, [], none⟩, ⟨o 16 (.iaS 1 (t 15) (k 16)), 5, false, [], none⟩, ⟨l 17 16, 6, false, [], none⟩, ⟨o 18 (.build [(.d (.i .u64 0)), (.d (.i .u64 0)), (.d (.i .u8 0))] [(0, 1, (t 12)), (1, 1, (t 14)), (2, 1, (t 17))]), 7, false, [3, 1], none⟩, ⟨o 4 (.alloc 94 [(.d (.i .u64 0)), (.d (.i .u64 0)), (.d (.i .u8 0))]), 8, false, [], (some 0)⟩, ⟨u (.store 3 (t 4) (t 18)), 9, true, [], none⟩])
 (.seq (.seq (.reg [o 20 (.load true 3 (t 4)), o 21 (.callf 165 [(t 20)]), m 19 21, o 22 (.extr (t 19) 0), o 23 (.extr (t 19) 1), m 5 22, m 6 23])
 (.seq (.reg [m 24 6, o 25 (b .neq (t 24) (k 0)), m 26 25, mg 27 0 26 false, mg 28 5 26 false, og 29 (.callf 183 [(t 27), (t 28)]) 26 false, og 30 (.un .not (t 29)) 26 false, o 31 (.pick (t 26) (.c (.d (.b true))) (t 30))])
 (.cond (t 31)
 (.seq (.reg [o 32 (.build [(.d (.i .u64 0)), (.d (.i .u64 0)), (.d (.i .u8 0))] []), u (.store 3 (t 2) (t 32)), o 3 (.mv (.c (.d (.b false))))])
 .ret)
 .skip)))
 (.seq (.reg [o 33 (.load true 3 (t 4)), u (.store 3 (t 2) (t 33)), o 3 (.mv (.c (.d (.b true))))])
 .ret))))), false⟩
/-- foreman/rec.number -/
def a182 : AFn := ⟨25, [.tmp 2],
 (.seq (.reg [o 2 (.mv (.c (.d (.i .u32 0))))])
 (.seq (.dreg 0 [⟨m 3 0, 0, false, [], none⟩, ⟨o 4 (.iaS 1 (t 3) (k 0)), 1, false, [], none⟩, ⟨l 5 4, 2, false, [], none⟩, ⟨o 6 (.cvi .u32 (t 5)), 3, false, [], none⟩, ⟨m 7 0, 4, false, [], none⟩, ⟨o 8 (.iaS 1 (t 7) (k 1)), 5, false, [], none⟩, ⟨l 9 8, 6, false, [], none⟩, ⟨o 10 (.cvi .u32 (t 9)), 7, false, [], none⟩, ⟨o 11 (b .shl (t 10) (.c (.d (.i .u64 8)))), 8, false, [], none⟩, ⟨o 12 (b .or (t 6) (t 11)), 9, false, [], none⟩, ⟨m 13 0, 10, false, [], none⟩, ⟨o 14 (.iaS 1 (t 13) (k 2)), 11, false, [], none⟩, ⟨l 15 14, 12, false, [], none⟩, ⟨o 16 (.cvi .u32 (t 15)), 13, false, [], none⟩, ⟨o 17 (b .shl (t 16) (.c (.d (.i .u64 16)))), 14, false, [], none⟩, ⟨o 18 (b .or (t 12) (t 17)), 15, false, [], none⟩, ⟨m 19 0, 16, false, [], none⟩, ⟨o 20 (.iaS 1 (t 19) (k 3)), 17, false, [], none⟩, ⟨l 21 20, 18, false, [], none⟩, ⟨o 22 (.cvi .u32 (t 21)), 19, false, [], none⟩, ⟨o 23 (b .shl (t 22) (.c (.d (.i .u64 24)))), 20, false, [], none⟩, ⟨o 24 (b .or (t 18) (t 23)), 21, false, [], none⟩, ⟨m 2 24, 22, false, [], none⟩])
 .ret)), false⟩
/-- slices.Equal[[]byte,byte] -/
def a183 : AFn := ⟨26, [.tmp 4],
 (.seq (.reg [o 4 (.mv (.c (.d (.b false))))])
 (.seq (.seq (.reg [m 6 0, o 7 (.len 1 (t 6)), m 8 1, o 9 (.len 1 (t 8)), o 10 (b .neq (t 7) (t 9))])
 (.cond (t 10)
 (.seq (.reg [o 4 (.mv (.c (.d (.b false))))])
 .ret)
 .skip))
 (.seq (.seq (.reg [m 11 0, o 12 (.len 1 (t 11)), o 13 (.mv (k 0))])
 (.blk 0 (.loop (.seq (.reg [o 14 (b .lss (t 13) (t 12))])
 (.seq (.cond (t 14)
 .skip
 (.exit 0))
 (.seq (.blk 1 (.seq (.reg [m 15 13, m 5 15])
 (.seq (.dreg 0 [⟨m 16 0, 0, false, [], none⟩, ⟨m 17 5, 1, false, [], none⟩, ⟨o 18 (.iaS 1 (t 16) (t 17)), 2, false, [], none⟩, ⟨l 19 18, 3, false, [], none⟩, ⟨m 20 1, 4, false, [], none⟩, ⟨m 21 5, 5, false, [], none⟩, ⟨o 22 (.iaS 1 (t 20) (t 21)), 6, false, [], none⟩, ⟨l 23 22, 7, false, [], none⟩, ⟨o 24 (b .neq (t 19) (t 23)), 8, false, [], none⟩])
 (.cond (t 24)
 (.seq (.reg [o 4 (.mv (.c (.d (.b false))))])
 .ret)
 .skip))))
 (.reg [o 25 (b .add (t 13) (k 1)), m 13 25])))))))
 (.seq (.reg [o 4 (.mv (.c (.d (.b true))))])
 .ret)))), false⟩
/-- foreman/batch.Glue -/
def a184 : AFn := ⟨5, [.tmp 2],
 (.seq (.reg [o 2 (.mv (.c .nilsl))])
 (.seq (.reg [m 3 0, o 4 (.callf 194 [(t 3)]), m 2 4])
 .ret)), false⟩
/-- foreman/op.Parse -/
def a185 : AFn := ⟨27, [.cell 2 true 9, .tmp 3],
 (.seq (.reg [o 2 (.alloc 27 [(.d (.i .u8 0)), (.d (.s [])), (.d (.i .i64 0)), (.d (.i .u8 0)), (.d (.i .i64 0)), (.d (.s [])), .nilsl, .nilsl, (.d (.i .i64 0))]), o 3 (.mv (k 0))])
 (.seq (.reg [m 8 0, o 9 (.callf 267 [(t 8)]), m 7 9, o 10 (.extr (t 7) 0), o 11 (.extr (t 7) 1), o 12 (.extr (t 7) 2), o 4 (.alloc 27 [(.d (.i .u8 0)), (.d (.s [])), (.d (.i .i64 0)), (.d (.i .u8 0)), (.d (.i .i64 0)), (.d (.s [])), .nilsl, .nilsl, (.d (.i .i64 0))]), u (.store 9 (t 4) (t 10)), m 5 11, m 6 12])
 (.seq (.seq (.reg [m 13 6, o 14 (b .neq (t 13) (k 0)), m 15 14, mg 16 5 15 false, og 17 (.len 1 (t 16)) 15 false, og 18 (b .gtr (t 17) (k 0)) 15 false, o 19 (.pick (t 15) (.c (.d (.b true))) (t 18)), m 20 19, og 21 (.load true 9 (t 4)) 20 false, og 22 (.callf 54 [(t 21)]) 20 false, og 23 (.un .not (t 22)) 20 false, o 24 (.pick (t 20) (.c (.d (.b true))) (t 23))])
 (.cond (t 24)
 (.seq (.reg [o 25 (.build [(.d (.i .u8 0)), (.d (.s [])), (.d (.i .i64 0)), (.d (.i .u8 0)), (.d (.i .i64 0)), (.d (.s [])), .nilsl, .nilsl, (.d (.i .i64 0))] []), u (.store 9 (t 2) (t 25)), o 3 (.mv (k 30))])
 .ret)
 .skip))
 (.seq (.reg [o 26 (.load true 9 (t 4)), u (.store 9 (t 2) (t 26)), o 3 (.mv (k 0))])
 .ret)))), false⟩
/-- foreman/snap.Parse -/
def a186 : AFn := ⟨52, [.cell 2 true 8, .tmp 3],
 (.seq (.reg [o 2 (.alloc 49 [(.d (.i .i64 0)), (.d (.i .i64 0)), (.d (.i .i64 0)), (.d (.i .i64 0)), (.d (.i .i64 0)), (.d (.i .i64 0)), .nilsl, (.d (.i .i64 0))]), o 3 (.mv (k 0))])
 (.seq (.reg [m 8 0, o 9 (.build [.nilsl, (.d (.b false))] [(0, 1, (t 8))]), o 10 (.box 349 (t 9)), m 4 10])
 (.seq (.reg [o 5 (.alloc 49 [(.d (.i .i64 0)), (.d (.i .i64 0)), (.d (.i .i64 0)), (.d (.i .i64 0)), (.d (.i .i64 0)), (.d (.i .i64 0)), .nilsl, (.d (.i .i64 0))])])
 (.seq (.reg [m 11 4, o 12 (.callf 192 [(t 5)]), o 13 (.callf 268 [(t 11), (t 12)])])
 (.seq (.reg [m 14 4, o 15 (.callf 269 [(t 14), (k 0), (k 9223372036854775807)]), o 16 (.fadd 7 (t 5)), u (.store 1 (t 16) (t 15))])
 (.seq (.reg [m 17 4, o 18 (.callf 269 [(t 17), (k 0), (k 4800)]), m 6 18])
 (.seq (.seq (.reg [o 7 (.mv (k 0))])
 (.blk 0 (.loop (.seq (.seq (.reg [m 19 7, m 20 6, o 21 (b .lss (t 19) (t 20)), m 22 21, mg 23 4 22 true, og 24 (.nilchk (t 23)) 22 true, og 25 (.fadd 1 (t 24)) 22 true, lg 26 25 22 true, og 27 (.un .not (t 26)) 22 true, o 28 (.pick (t 22) (t 27) (.c (.d (.b false))))])
 (.cond (t 28)
 .skip
 (.exit 0)))
 (.seq (.blk 1 (.dreg 1 [⟨m 33 4, 2, false, [], none⟩, ⟨o 34 (.callf 270 [(t 33)]), 3, true, [], none⟩, ⟨o 31 (.fadd 6 (t 5)), 0, false, [], none⟩, ⟨l 32 31, 1, false, [], none⟩, ⟨o 35 (.bsl 83 16 1 [(.d (.s [])), (.d (.s [])), (.d (.i .u8 0)), (.d (.i .i64 0)), (.d (.i .i64 0)), (.d (.i .i64 0)), .nilsl, (.d (.i .i64 0)), (.d (.i .i64 0)), (.d (.i .u8 0)), (.d (.i .i64 0)), (.d (.i .i64 0)), (.d (.i .u8 0)), (.d (.i .i64 0)), (.d (.s [])), .nilsl] [(0, 16, (t 34))]), 4, false, [], (some 0)⟩, ⟨o 36 (.app 83 16 184 false (t 32) (t 35)), 5, true, [], none⟩, ⟨o 37 (.fadd 6 (t 5)), 6, false, [5, 3], none⟩, ⟨u (.store 1 (t 37) (t 36)), 7, true, [], none⟩]))
 (.reg [m 29 7, o 30 (b .add (t 29) (k 1)), m 7 30]))))))
 (.seq (.seq (.reg [m 38 4, o 39 (.nilchk (t 38)), o 40 (.fadd 1 (t 39)), l 41 40, m 42 41, mg 43 4 42 false, og 44 (.nilchk (t 43)) 42 false, og 45 (.fadd 0 (t 44)) 42 false, lg 46 45 42 false, og 47 (.len 1 (t 46)) 42 false, og 48 (b .gtr (t 47) (k 0)) 42 false, o 49 (.pick (t 42) (.c (.d (.b true))) (t 48))])
 (.cond (t 49)
 (.seq (.reg [o 50 (.build [(.d (.i .i64 0)), (.d (.i .i64 0)), (.d (.i .i64 0)), (.d (.i .i64 0)), (.d (.i .i64 0)), (.d (.i .i64 0)), .nilsl, (.d (.i .i64 0))] []), u (.store 8 (t 2) (t 50)), o 3 (.mv (k 30))])
 .ret)
 .skip))
 (.seq (.reg [o 51 (.load true 8 (t 5)), u (.store 8 (t 2) (t 51)), o 3 (.mv (k 0))])
 .ret))))))))), false⟩
/-- foreman/wire.Num -/
def a187 : AFn := ⟨10, [.tmp 4],
 (.seq (.reg [o 4 (.mv (.c .nilsl))])
 (.seq (.reg [m 5 0, o 6 (.clone 115 5 1 1 false (t 5)), m 7 1, o 8 (.callf 272 [(t 7)]), o 9 (.callf 271 [(t 6), (t 8)]), m 4 9])
 .ret)), false⟩
/-- foreman/wire.Text -/
def a188 : AFn := ⟨11, [.tmp 4],
 (.seq (.reg [o 4 (.mv (.c .nilsl))])
 (.seq (.reg [m 5 0, m 6 1, o 7 (.len 0 (t 6)), o 8 (.callf 187 [(t 5), (t 7)]), m 9 1, o 10 (.app 5 1 1 false (t 8) (t 9)), m 4 10])
 .ret)), false⟩
/-- foreman/value.Put -/
def a189 : AFn := ⟨44, [.tmp 4],
 (.seq (.reg [o 3 (.box 24 (t 1)), o 4 (.mv (.c .nilsl))])
 (.seq (.reg [m 8 0, o 9 (.fadd 0 (t 3)), l 10 9, o 11 (.cvi .i64 (t 10)), o 12 (.callf 187 [(t 8), (t 11)]), m 5 12])
 (.seq (.seq (.reg [o 13 (.fadd 0 (t 3)), l 14 13])
 (.blk 0 (.seq (.reg [o 16 (b .eql (t 14) (.c (.d (.i .u8 0)))), m 15 16])
 (.cond (t 15)
 (.seq (.reg [m 17 5, o 18 (.fadd 1 (t 3)), l 19 18, o 20 (.callf 187 [(t 17), (t 19)]), m 4 20])
 .ret)
 (.seq (.reg [o 22 (b .eql (t 14) (.c (.d (.i .u8 1)))), m 21 22])
 (.cond (t 21)
 (.seq (.reg [m 23 5, o 24 (.fadd 2 (t 3)), l 25 24, o 26 (.callf 188 [(t 23), (t 25)]), m 4 26])
 .ret)
 .skip))))))
 (.seq (.reg [m 27 5, o 28 (.fadd 3 (t 3)), l 29 28, o 30 (.len 1 (t 29)), o 31 (.callf 187 [(t 27), (t 30)]), m 5 31])
 (.seq (.seq (.reg [o 32 (.fadd 3 (t 3)), l 33 32, o 34 (.len 1 (t 33)), o 35 (.mv (k 0))])
 (.blk 1 (.loop (.seq (.reg [o 36 (b .lss (t 35) (t 34))])
 (.seq (.cond (t 36)
 .skip
 (.exit 1))
 (.seq (.blk 2 (.seq (.reg [o 37 (.iaS 4 (t 33) (t 35)), o 38 (.load true 4 (t 37)), o 7 (.alloc 24 [(.d (.i .u8 0)), (.d (.i .i64 0)), (.d (.s [])), .nilsl]), u (.store 4 (t 7) (t 38))])
 (.reg [m 39 5, o 40 (.load true 4 (t 7)), o 41 (.callf 189 [(t 39), (t 40)]), m 5 41])))
 (.reg [o 42 (b .add (t 35) (k 1)), m 35 42])))))))
 (.seq (.reg [m 43 5, m 4 43])
 .ret)))))), false⟩
/-- foreman/frag.Put -/
def a190 : AFn := ⟨60, [.tmp 4],
 (.seq (.reg [o 4 (.mv (.c .nilsl))])
 (.seq (.reg [m 10 0, m 11 1, o 12 (.len 1 (t 11)), o 13 (.callf 187 [(t 10), (t 12)]), m 5 13])
 (.seq (.seq (.reg [m 14 1, o 15 (.len 1 (t 14)), o 16 (.mv (k 0))])
 (.blk 0 (.loop (.seq (.reg [o 17 (b .lss (t 16) (t 15))])
 (.seq (.cond (t 17)
 .skip
 (.exit 0))
 (.seq (.blk 1 (.seq (.reg [o 18 (.iaS 6 (t 14) (t 16)), o 19 (.load true 6 (t 18)), o 7 (.alloc 78 [(.d (.s [])), (.d (.i .u8 0)), .nilsl, (.d (.s [])), (.d (.i .i64 0)), (.d (.i .i64 0))]), u (.store 6 (t 7) (t 19))])
 (.seq (.dreg 0 [⟨m 20 5, 0, false, [], none⟩, ⟨o 21 (.fadd 0 (t 7)), 1, false, [], none⟩, ⟨l 22 21, 2, false, [], none⟩, ⟨o 23 (.callf 188 [(t 20), (t 22)]), 3, true, [], none⟩, ⟨o 24 (.fadd 1 (t 7)), 4, false, [], none⟩, ⟨l 25 24, 5, false, [], none⟩, ⟨o 26 (.cvi .i64 (t 25)), 6, false, [], none⟩, ⟨o 27 (.callf 187 [(t 23), (t 26)]), 7, true, [], none⟩, ⟨m 5 27, 8, false, [7, 3], none⟩])
 (.seq (.reg [m 28 5, o 29 (.fadd 2 (t 7)), l 30 29, o 31 (.len 1 (t 30)), o 32 (.callf 187 [(t 28), (t 31)]), m 5 32])
 (.seq (.seq (.reg [o 33 (.fadd 2 (t 7)), l 34 33, o 35 (.len 1 (t 34)), o 36 (.mv (k 0))])
 (.blk 2 (.loop (.seq (.reg [o 37 (b .lss (t 36) (t 35))])
 (.seq (.cond (t 37)
 .skip
 (.exit 2))
 (.seq (.blk 3 (.seq (.reg [o 38 (.iaS 1 (t 34) (t 36)), l 39 38, m 9 39])
 (.reg [m 40 5, m 41 9, o 42 (.callf 188 [(t 40), (t 41)]), m 5 42])))
 (.reg [o 43 (b .add (t 36) (k 1)), m 36 43])))))))
 (.seq (.reg [m 44 5, o 45 (.fadd 5 (t 7)), l 46 45, o 47 (.callf 187 [(t 44), (t 46)]), m 5 47])
 (.seq (.reg [o 48 (.fadd 1 (t 7)), l 49 48, o 50 (b .eql (t 49) (.c (.d (.i .u8 1))))])
 (.cond (t 50)
 (.dreg 0 [⟨m 51 5, 0, false, [], none⟩, ⟨o 52 (.fadd 3 (t 7)), 1, false, [], none⟩, ⟨l 53 52, 2, false, [], none⟩, ⟨o 54 (.callf 188 [(t 51), (t 53)]), 3, true, [], none⟩, ⟨o 55 (.fadd 4 (t 7)), 4, false, [], none⟩, ⟨l 56 55, 5, false, [], none⟩, ⟨o 57 (.callf 187 [(t 54), (t 56)]), 6, true, [], none⟩, ⟨m 5 57, 7, false, [6, 3], none⟩])
 .skip))))))))
 (.reg [o 58 (b .add (t 16) (k 1)), m 16 58])))))))
 (.seq (.reg [m 59 5, m 4 59])
 .ret)))), false⟩
/-- foreman/snap.nums -/
def a191 : AFn := ⟨20, [.tmp 4],
 (.seq (.reg [o 2 (.box 58 (t 0)), o 4 (.mv (.c .nilsl))])
 (.seq (.reg [o 8 (.mkfn (.func 273) [] [(t 2)]), m 5 8])
 (.seq (.seq (.reg [m 9 1, o 10 (.len 1 (t 9)), o 11 (.mv (k 0))])
 (.blk 0 (.loop (.seq (.reg [o 12 (b .lss (t 11) (t 10))])
 (.seq (.cond (t 12)
 .skip
 (.exit 0))
 (.seq (.blk 1 (.seq (.reg [o 13 (.iaS 3 (t 9) (t 11)), o 14 (.load true 3 (t 13)), o 7 (.alloc 357 [(.d .nilp), (.d (.i .i64 0)), (.d (.i .i64 0))]), u (.store 3 (t 7) (t 14))])
 (.reg [m 15 5, o 16 (.load true 3 (t 7)), o 17 (.callv (t 15) [(t 16)])])))
 (.reg [o 18 (b .add (t 11) (k 1)), m 11 18])))))))
 (.seq (.reg [l 19 2, m 4 19])
 .ret)))), false⟩
/-- foreman/snap.head -/
def a192 : AFn := ⟨32, [.tmp 2],
 (.seq (.reg [o 2 (.mv (.c .nilsl))])
 (.seq (.reg [m 4 0, o 5 (.nilchk (t 4)), o 6 (.fadd 0 (t 5)), m 3 6])
 (.seq (.dreg 1 [⟨m 7 3, 0, false, [], none⟩, ⟨o 8 (.nilchk (t 7)), 1, false, [], none⟩, ⟨o 9 (.fadd 0 (t 8)), 2, false, [], none⟩, ⟨o 10 (.build [(.d .nilp), (.d (.i .i64 0)), (.d (.i .i64 0))] [(0, 1, (t 9)), (1, 1, (k 0)), (2, 1, (k 400))]), 3, false, [], none⟩, ⟨m 11 3, 4, false, [], none⟩, ⟨o 12 (.nilchk (t 11)), 5, false, [], none⟩, ⟨o 13 (.fadd 1 (t 12)), 6, false, [], none⟩, ⟨o 14 (.build [(.d .nilp), (.d (.i .i64 0)), (.d (.i .i64 0))] [(0, 1, (t 13)), (1, 1, (k 0)), (2, 1, (k 12))]), 7, false, [], none⟩, ⟨m 15 3, 8, false, [], none⟩, ⟨o 16 (.nilchk (t 15)), 9, false, [], none⟩, ⟨o 17 (.fadd 2 (t 16)), 10, false, [], none⟩, ⟨o 18 (.build [(.d .nilp), (.d (.i .i64 0)), (.d (.i .i64 0))] [(0, 1, (t 17)), (1, 1, (k 0)), (2, 1, (k 40))]), 11, false, [], none⟩, ⟨m 19 3, 12, false, [], none⟩, ⟨o 20 (.nilchk (t 19)), 13, false, [], none⟩, ⟨o 21 (.fadd 3 (t 20)), 14, false, [], none⟩, ⟨o 22 (.build [(.d .nilp), (.d (.i .i64 0)), (.d (.i .i64 0))] [(0, 1, (t 21)), (1, 1, (k 0)), (2, 1, (k 9))]), 15, false, [], none⟩, ⟨m 23 3, 16, false, [], none⟩, ⟨o 24 (.nilchk (t 23)), 17, false, [], none⟩, ⟨o 25 (.fadd 4 (t 24)), 18, false, [], none⟩, ⟨o 26 (.build [(.d .nilp), (.d (.i .i64 0)), (.d (.i .i64 0))] [(0, 1, (t 25)), (1, 1, (k 0)), (2, 1, (k 12))]), 19, false, [], none⟩, ⟨m 27 0, 20, false, [], none⟩, ⟨o 28 (.nilchk (t 27)), 21, false, [], none⟩, ⟨o 29 (.fadd 5 (t 28)), 22, false, [], none⟩, ⟨o 30 (.build [(.d .nilp), (.d (.i .i64 0)), (.d (.i .i64 0))] [(0, 1, (t 29)), (1, 1, (k 0)), (2, 1, (k 12))]), 23, false, [], none⟩, ⟨o 31 (.bsl 357 3 6 [(.d .nilp), (.d (.i .i64 0)), (.d (.i .i64 0))] [(0, 3, (t 10)), (3, 3, (t 14)), (6, 3, (t 18)), (9, 3, (t 22)), (12, 3, (t 26)), (15, 3, (t 30))]), 24, false, [], (some 0)⟩, ⟨m 2 31, 25, false, [], none⟩])
 .ret))), false⟩
/-- foreman/snap.put -/
def a193 : AFn := ⟨53, [.tmp 4],
 (.seq (.reg [o 3 (.box 83 (t 1)), o 4 (.mv (.c .nilsl))])
 (.seq (.reg [o 9 (.fadd 2 (t 3)), l 10 9, o 11 (.cvi .i64 (t 10)), o 12 (.fadd 9 (t 3)), l 13 12, o 14 (.cvi .i64 (t 13)), o 15 (.build [(.d (.i .i64 0)), (.d (.i .i64 0))] [(0, 1, (t 11)), (1, 1, (t 14))]), o 16 (.box 362 (t 15)), m 5 16])
 (.seq (.dreg 0 [⟨m 17 0, 0, false, [], none⟩, ⟨o 18 (.fadd 0 (t 3)), 1, false, [], none⟩, ⟨l 19 18, 2, false, [], none⟩, ⟨o 20 (.callf 188 [(t 17), (t 19)]), 3, true, [], none⟩, ⟨o 21 (.fadd 1 (t 3)), 4, false, [], none⟩, ⟨l 22 21, 5, false, [], none⟩, ⟨o 23 (.callf 188 [(t 20), (t 22)]), 6, true, [], none⟩, ⟨m 24 5, 7, false, [], none⟩, ⟨o 25 (.callf 274 [(t 3), (t 24)]), 8, true, [], none⟩, ⟨o 26 (.callf 191 [(t 23), (t 25)]), 9, true, [], none⟩, ⟨m 6 26, 10, false, [9, 8, 6, 3], none⟩])
 (.seq (.reg [m 27 6, o 28 (.fadd 6 (t 3)), l 29 28, o 30 (.len 1 (t 29)), o 31 (.callf 187 [(t 27), (t 30)]), m 6 31])
 (.seq (.seq (.reg [o 32 (.fadd 6 (t 3)), l 33 32, o 34 (.len 1 (t 33)), o 35 (.mv (k 0))])
 (.blk 0 (.loop (.seq (.reg [o 36 (b .lss (t 35) (t 34))])
 (.seq (.cond (t 36)
 .skip
 (.exit 0))
 (.seq (.blk 1 (.seq (.reg [o 37 (.iaS 1 (t 33) (t 35)), l 38 37, m 8 38])
 (.reg [m 39 6, m 40 8, o 41 (.callf 187 [(t 39), (t 40)]), m 6 41])))
 (.reg [o 42 (b .add (t 35) (k 1)), m 35 42])))))))
 (.seq (.dreg 0 [⟨m 44 5, 1, false, [], none⟩, ⟨o 45 (.callf 275 [(t 3), (t 44)]), 2, true, [], none⟩, ⟨m 43 6, 0, false, [], none⟩, ⟨o 46 (.callf 191 [(t 43), (t 45)]), 3, true, [], none⟩, ⟨o 47 (.fadd 11 (t 3)), 4, false, [], none⟩, ⟨l 48 47, 5, false, [], none⟩, ⟨o 49 (.callf 187 [(t 46), (t 48)]), 6, true, [], none⟩, ⟨o 50 (.fadd 12 (t 3)), 7, false, [], none⟩, ⟨o 51 (.load true 4 (t 50)), 8, false, [], none⟩, ⟨o 52 (.callf 189 [(t 49), (t 51)]), 9, true, [], none⟩, ⟨m 4 52, 10, false, [9, 6, 3, 2], none⟩])
 .ret)))))), false⟩
/-- slices.Concat[[]byte,byte] -/
def a194 : AFn := ⟨36, [.tmp 2],
 (.seq (.reg [o 2 (.mv (.c .nilsl))])
 (.seq (.reg [o 3 (.mv (k 0))])
 (.seq (.seq (.reg [m 9 0, o 10 (.len 1 (t 9)), o 11 (.mv (k 0))])
 (.blk 0 (.loop (.seq (.reg [o 12 (b .lss (t 11) (t 10))])
 (.seq (.cond (t 12)
 .skip
 (.exit 0))
 (.seq (.blk 1 (.seq (.reg [o 13 (.iaS 1 (t 9) (t 11)), l 14 13, m 5 14])
 (.seq (.reg [m 15 3, m 16 5, o 17 (.len 1 (t 16)), o 18 (b .add (t 15) (t 17)), m 3 18])
 (.seq (.reg [m 19 3, o 20 (b .lss (t 19) (k 0))])
 (.cond (t 20)
 (.reg [o 21 (.mkif 9 (.c (.d (.s [108, 101, 110, 32, 111, 117, 116, 32, 111, 102, 32, 114, 97, 110, 103, 101])))), u (.panic (t 21))])
 .skip)))))
 (.reg [o 22 (b .add (t 11) (k 1)), m 11 22])))))))
 (.seq (.reg [m 23 3, o 24 (.callf 276 [(.c .nilsl), (t 23)]), m 6 24])
 (.seq (.seq (.reg [m 25 0, o 26 (.len 1 (t 25)), o 27 (.mv (k 0))])
 (.blk 2 (.loop (.seq (.reg [o 28 (b .lss (t 27) (t 26))])
 (.seq (.cond (t 28)
 .skip
 (.exit 2))
 (.seq (.blk 3 (.seq (.reg [o 29 (.iaS 1 (t 25) (t 27)), l 30 29, m 8 30])
 (.reg [m 31 6, m 32 8, o 33 (.app 5 1 1 false (t 31) (t 32)), m 6 33])))
 (.reg [o 34 (b .add (t 27) (k 1)), m 27 34])))))))
 (.seq (.reg [m 35 6, m 2 35])
 .ret)))))), false⟩
/-- slices.Chunk[[]byte,byte]$1 -/
def a195 : AFn := ⟨31, [],
 (.seq (.reg [o 4 (.mv (k 0))])
 (.blk 0 (.loop (.seq (.seq (.reg [m 6 4, l 7 1, o 8 (.len 1 (t 7)), o 9 (b .lss (t 6) (t 8))])
 (.cond (t 9)
 .skip
 (.exit 0)))
 (.seq (.blk 1 (.seq (.dreg 0 [⟨l 13 2, 0, false, [], none⟩, ⟨l 14 1, 1, false, [], none⟩, ⟨m 15 4, 2, false, [], none⟩, ⟨o 16 (.slSl 1 (t 14) (some (t 15)) none none), 3, false, [], none⟩, ⟨o 17 (.len 1 (t 16)), 4, false, [], none⟩, ⟨o 18 (.mn [(t 13), (t 17)]), 5, false, [], none⟩, ⟨m 5 18, 6, false, [], none⟩])
 (.seq (.reg [m 19 0, l 20 1, m 21 4, m 22 4, m 23 5, o 24 (b .add (t 22) (t 23)), m 25 4, m 26 5, o 27 (b .add (t 25) (t 26)), o 28 (.slSl 1 (t 20) (some (t 21)) (some (t 24)) (some (t 27))), o 29 (.callv (t 19) [(t 28)]), o 30 (.un .not (t 29))])
 (.cond (t 30)
 .ret
 .skip))))
 (.reg [m 10 4, l 11 2, o 12 (b .add (t 10) (t 11)), m 4 12])))))), false⟩
/-- slices.IndexFunc[[]foreman/api.Item,foreman/api.Item] -/
def a196 : AFn := ⟨19, [.tmp 4],
 (.seq (.reg [o 4 (.mv (k 0))])
 (.seq (.seq (.reg [m 6 0, o 7 (.len 1 (t 6)), o 8 (.mv (k 0))])
 (.blk 0 (.loop (.seq (.reg [o 9 (b .lss (t 8) (t 7))])
 (.seq (.cond (t 9)
 .skip
 (.exit 0))
 (.seq (.blk 1 (.seq (.reg [m 10 8, m 5 10])
 (.seq (.reg [m 11 1, m 12 0, m 13 5, o 14 (.iaS 6 (t 12) (t 13)), o 15 (.load true 6 (t 14)), o 16 (.callv (t 11) [(t 15)])])
 (.cond (t 16)
 (.seq (.reg [m 17 5, m 4 17])
 .ret)
 .skip))))
 (.reg [o 18 (b .add (t 8) (k 1)), m 8 18])))))))
 (.seq (.reg [o 4 (.mv (k (-1)))])
 .ret))), false⟩
/-- foreman/frag.Name -/
def a197 : AFn := ⟨16, [.tmp 2],
 (.seq (.reg [o 2 (.mv (.c (.d (.b false))))])
 (.seq (.reg [m 3 0, o 4 (.len 0 (t 3)), o 5 (b .geq (t 4) (k 1)), m 6 5, mg 7 0 6 true, og 8 (.len 0 (t 7)) 6 true, og 9 (b .leq (t 8) (k 20)) 6 true, o 10 (.pick (t 6) (t 9) (.c (.d (.b false)))), m 11 10, mg 12 0 11 true, og 13 (.callf 277 [(t 12), (.c (.d (.s [97, 98, 99, 100, 101, 102, 103, 104, 105, 106, 107, 108, 109, 110, 111, 112, 113, 114, 115, 116, 117, 118, 119, 120, 121, 122, 48, 49, 50, 51, 52, 53, 54, 55, 56, 57, 95])))]) 11 true, og 14 (b .eql (t 13) (.c (.d (.s [])))) 11 true, o 15 (.pick (t 11) (t 14) (.c (.d (.b false)))), m 2 15])
 .ret)), false⟩
/-- foreman/frag.within -/
def a198 : AFn := ⟨12, [.tmp 4],
 (.seq (.reg [o 4 (.mv (.c (.d (.b false))))])
 (.seq (.reg [m 5 0, o 6 (b .geq (t 5) (k 0)), m 7 6, mg 8 0 7 true, mg 9 1 7 true, og 10 (b .leq (t 8) (t 9)) 7 true, o 11 (.pick (t 7) (t 10) (.c (.d (.b false)))), m 4 11])
 .ret)), false⟩
/-- slices.ContainsFunc[[]string,string] -/
def a199 : AFn := ⟨9, [.tmp 4],
 (.seq (.reg [o 4 (.mv (.c (.d (.b false))))])
 (.seq (.reg [m 5 0, m 6 1, o 7 (.callf 278 [(t 5), (t 6)]), o 8 (b .geq (t 7) (k 0)), m 4 8])
 .ret)), false⟩
/-- strings.IndexFunc -/
def a201 : AFn := ⟨8, [.tmp 4],
 (.seq (.reg [o 4 (.mv (k 0))])
 (.seq (.reg [m 5 0, m 6 1, o 7 (.callf 279 [(t 5), (t 6), (.c (.d (.b true)))]), m 4 7])
 .ret)), false⟩
/-- foreman/value.plain -/
def a202 : AFn := ⟨49, [.tmp 2],
 (.seq (.reg [o 1 (.box 24 (t 0)), o 2 (.mv (.c (.d (.b false))))])
 (.seq (.seq (.reg [o 3 (.fadd 0 (t 1)), l 4 3])
 (.blk 0 (.seq (.reg [o 6 (b .eql (t 4) (.c (.d (.i .u8 0)))), m 5 6])
 (.cond (t 5)
 (.seq (.reg [o 7 (.fadd 2 (t 1)), l 8 7, o 9 (b .eql (t 8) (.c (.d (.s [])))), m 10 9, og 11 (.fadd 3 (t 1)) 10 true, lg 12 11 10 true, og 13 (.len 1 (t 12)) 10 true, og 14 (b .eql (t 13) (k 0)) 10 true, o 15 (.pick (t 10) (t 14) (.c (.d (.b false)))), m 2 15])
 .ret)
 (.seq (.reg [o 17 (b .eql (t 4) (.c (.d (.i .u8 1)))), m 16 17])
 (.cond (t 16)
 (.seq (.reg [o 18 (.fadd 1 (t 1)), l 19 18, o 20 (b .eql (t 19) (k 0)), m 21 20, og 22 (.fadd 3 (t 1)) 21 true, lg 23 22 21 true, og 24 (.len 1 (t 23)) 21 true, og 25 (b .eql (t 24) (k 0)) 21 true, o 26 (.pick (t 21) (t 25) (.c (.d (.b false)))), m 27 26, og 28 (.fadd 2 (t 1)) 27 true, lg 29 28 27 true, og 30 (.len 0 (t 29)) 27 true, og 31 (b .leq (t 30) (k 100)) 27 true, o 32 (.pick (t 27) (t 31) (.c (.d (.b false)))), m 2 32])
 .ret)
 (.seq (.reg [o 34 (b .eql (t 4) (.c (.d (.i .u8 2)))), m 33 34])
 (.cond (t 33)
 (.seq (.reg [o 35 (.fadd 1 (t 1)), l 36 35, o 37 (b .eql (t 36) (k 0)), m 38 37, og 39 (.fadd 2 (t 1)) 38 true, lg 40 39 38 true, og 41 (b .eql (t 40) (.c (.d (.s [])))) 38 true, o 42 (.pick (t 38) (t 41) (.c (.d (.b false)))), m 43 42, og 44 (.fadd 3 (t 1)) 43 true, lg 45 44 43 true, og 46 (.len 1 (t 45)) 43 true, og 47 (b .leq (t 46) (k 40)) 43 true, o 48 (.pick (t 43) (t 47) (.c (.d (.b false)))), m 2 48])
 .ret)
 .skip))))))))
 (.seq (.reg [o 2 (.mv (.c (.d (.b false))))])
 .ret))), false⟩
/-- slices.ContainsFunc[[]foreman/api.Value,foreman/api.Value] -/
def a203 : AFn := ⟨9, [.tmp 4],
 (.seq (.reg [o 4 (.mv (.c (.d (.b false))))])
 (.seq (.reg [m 5 0, m 6 1, o 7 (.callf 280 [(t 5), (t 6)]), o 8 (b .geq (t 7) (k 0)), m 4 8])
 .ret)), false⟩
/-- (foreman/check.asked).all -/
def a205 : AFn := ⟨25, [.tmp 2],
 (.seq (.reg [o 1 (.box 294 (t 0)), o 2 (.mv (.c (.d .nilf)))])
 (.seq (.reg [o 4 (.mkfn (.func 281) [] [(t 1)]), o 5 (.build [(.d (.i .i64 0)), (.d .nilf)] [(0, 1, (k 2)), (1, 1, (t 4))]), o 6 (.load true 9 (t 1)), o 7 (.mkfn (.func 282) [(t 6)] []), o 8 (.build [(.d (.i .i64 0)), (.d .nilf)] [(0, 1, (k 24)), (1, 1, (t 7))]), o 9 (.load true 9 (t 1)), o 10 (.mkfn (.func 283) [(t 9)] []), o 11 (.build [(.d (.i .i64 0)), (.d .nilf)] [(0, 1, (k 20)), (1, 1, (t 10))]), o 12 (.load true 9 (t 1)), o 13 (.mkfn (.func 284) [(t 12)] []), o 14 (.build [(.d (.i .i64 0)), (.d .nilf)] [(0, 1, (k 23)), (1, 1, (t 13))]), o 15 (.load true 9 (t 1)), o 16 (.mkfn (.func 285) [(t 15)] []), o 17 (.build [(.d (.i .i64 0)), (.d .nilf)] [(0, 1, (k 21)), (1, 1, (t 16))]), o 18 (.mkfn (.func 286) [] [(t 1)]), o 19 (.build [(.d (.i .i64 0)), (.d .nilf)] [(0, 1, (k 22)), (1, 1, (t 18))]), o 20 (.load true 9 (t 1)), o 21 (.mkfn (.func 288) [(t 20)] []), o 22 (.build [(.d (.i .i64 0)), (.d .nilf)] [(0, 1, (k 24)), (1, 1, (t 21))]), o 23 (.bsl 368 2 7 [(.d (.i .i64 0)), (.d .nilf)] [(0, 2, (t 5)), (2, 2, (t 8)), (4, 2, (t 11)), (6, 2, (t 14)), (8, 2, (t 17)), (10, 2, (t 19)), (12, 2, (t 22))]), o 3 (.alloc 370 [.nilsl]), u (.store 1 (t 3) (t 23))])
 (.seq (.reg [o 24 (.mkfn (.func 289) [] [(t 3)]), m 2 24])
 .ret))), true⟩
/-- foreman/build.under -/
def a208 : AFn := ⟨18, [.tmp 6],
 (.seq (.reg [o 3 (.box 49 (t 0)), o 6 (.mv (.c (.d (.s []))))])
 (.seq (.seq (.reg [m 7 2, o 8 (b .lss (t 7) (k 0))])
 (.cond (t 8)
 (.seq (.reg [m 9 1, o 10 (.build [(.d (.i .i64 0)), .nilsl] [(0, 1, (t 9))]), o 11 (.callf 291 [(t 10)]), m 6 11])
 .ret)
 .skip))
 (.seq (.reg [o 12 (.fadd 6 (t 3)), l 13 12, m 14 2, o 15 (.iaS 16 (t 13) (t 14)), o 16 (.fadd 0 (t 15)), l 17 16, m 6 17])
 .ret))), false⟩
/-- foreman/ident.Child -/
def a209 : AFn := ⟨23, [.tmp 4],
 (.seq (.reg [o 4 (.mv (.c (.d (.s []))))])
 (.seq (.reg [m 8 0, o 9 (.callf 98 [(t 8)]), m 7 9, o 10 (.extr (t 7) 0), o 11 (.extr (t 7) 1), o 5 (.alloc 173 [(.d (.i .i64 0)), .nilsl]), u (.store 2 (t 5) (t 10)), m 6 11])
 (.seq (.seq (.reg [m 12 6, o 13 (.un .not (t 12))])
 (.cond (t 13)
 (.seq (.reg [o 4 (.mv (.c (.d (.s []))))])
 .ret)
 .skip))
 (.seq (.reg [o 14 (.fadd 1 (t 5)), l 15 14, m 16 1, o 17 (.build [(.d (.s [])), (.d (.i .i64 0))] [(0, 1, (t 16)), (1, 1, (k (-1)))]), o 18 (.bsl 246 2 1 [(.d (.s [])), (.d (.i .i64 0))] [(0, 2, (t 17))]), o 19 (.app 246 2 24 false (t 15) (t 18)), o 20 (.fadd 1 (t 5)), u (.store 1 (t 20) (t 19))])
 (.seq (.reg [o 21 (.load true 2 (t 5)), o 22 (.callf 292 [(t 21)]), m 4 22])
 .ret))))), false⟩
/-- slices.Concat[[]foreman/api.Node,foreman/api.Node] -/
def a211 : AFn := ⟨36, [.tmp 2],
 (.seq (.reg [o 2 (.mv (.c .nilsl))])
 (.seq (.reg [o 3 (.mv (k 0))])
 (.seq (.seq (.reg [m 9 0, o 10 (.len 1 (t 9)), o 11 (.mv (k 0))])
 (.blk 0 (.loop (.seq (.reg [o 12 (b .lss (t 11) (t 10))])
 (.seq (.cond (t 12)
 .skip
 (.exit 0))
 (.seq (.blk 1 (.seq (.reg [o 13 (.iaS 1 (t 9) (t 11)), l 14 13, m 5 14])
 (.seq (.reg [m 15 3, m 16 5, o 17 (.len 1 (t 16)), o 18 (b .add (t 15) (t 17)), m 3 18])
 (.seq (.reg [m 19 3, o 20 (b .lss (t 19) (k 0))])
 (.cond (t 20)
 (.reg [o 21 (.mkif 9 (.c (.d (.s [108, 101, 110, 32, 111, 117, 116, 32, 111, 102, 32, 114, 97, 110, 103, 101])))), u (.panic (t 21))])
 .skip)))))
 (.reg [o 22 (b .add (t 11) (k 1)), m 11 22])))))))
 (.seq (.reg [m 23 3, o 24 (.callf 293 [(.c .nilsl), (t 23)]), m 6 24])
 (.seq (.seq (.reg [m 25 0, o 26 (.len 1 (t 25)), o 27 (.mv (k 0))])
 (.blk 2 (.loop (.seq (.reg [o 28 (b .lss (t 27) (t 26))])
 (.seq (.cond (t 28)
 .skip
 (.exit 2))
 (.seq (.blk 3 (.seq (.reg [o 29 (.iaS 1 (t 25) (t 27)), l 30 29, m 8 30])
 (.reg [m 31 6, m 32 8, o 33 (.app 83 16 184 false (t 31) (t 32)), m 6 33])))
 (.reg [o 34 (b .add (t 27) (k 1)), m 27 34])))))))
 (.seq (.reg [m 35 6, m 2 35])
 .ret)))))), false⟩
/-- foreman/bundle.Put -/
def a212 : AFn := ⟨48, [.tmp 6, .tmp 7],
 (.seq (.reg [o 6 (.mv (k 0)), o 7 (.mv (k 0))])
 (.seq (.seq (.reg [m 15 0, m 16 1, m 17 2, o 18 (.callf 294 [(t 15), (t 16), (t 17)]), m 8 18])
 (.seq (.reg [m 19 8, o 20 (b .neq (t 19) (k 0))])
 (.cond (t 20)
 (.seq (.reg [m 21 8, o 6 (.mv (k 0)), m 7 21])
 .ret)
 .skip)))
 (.seq (.reg [m 22 0, o 23 (.callf 295 [(t 22)]), m 9 23])
 (.seq (.reg [m 24 0, m 25 1, m 26 2, o 27 (.callf 296 [(t 24), (t 25), (t 26)])])
 (.seq (.reg [o 10 (.mv (k 0))])
 (.seq (.seq (.reg [m 28 9, o 29 (.len 1 (t 28)), o 30 (.mv (k 0))])
 (.blk 0 (.loop (.seq (.reg [o 31 (b .lss (t 30) (t 29))])
 (.seq (.cond (t 31)
 .skip
 (.exit 0))
 (.seq (.blk 1 (.seq (.reg [m 32 30, o 33 (.iaS 1 (t 28) (t 30)), l 34 33, m 11 32, m 12 34])
 (.seq (.reg [m 36 0, m 37 12, o 38 (.callf 297 [(t 36), (t 37)]), m 35 38, o 39 (.extr (t 35) 0), o 40 (.extr (t 35) 1), m 13 39, m 14 40])
 (.seq (.reg [m 41 13, m 42 11, o 43 (b .neq (t 41) (t 42))])
 (.cond (t 43)
 (.reg [m 44 10, o 45 (b .add (t 44) (k 1)), m 10 45])
 .skip)))))
 (.reg [o 46 (b .add (t 30) (k 1)), m 30 46])))))))
 (.seq (.reg [m 47 10, m 6 47, o 7 (.mv (k 0))])
 .ret))))))), false⟩
/-- foreman/flow.Edges -/
def a213 : AFn := ⟨66, [.tmp 4],
 (.seq (.reg [o 4 (.mv (.c .nilsl))])
 (.seq (.reg [o 5 (.mv (.c .nilsl))])
 (.seq (.seq (.reg [m 10 1, o 11 (.mx [(t 10), (k 0)]), m 6 11])
 (.blk 0 (.loop (.seq (.seq (.reg [m 12 6, m 13 0, o 14 (.len 1 (t 13)), o 15 (b .lss (t 12) (t 14))])
 (.cond (t 15)
 .skip
 (.exit 0)))
 (.seq (.blk 1 (.seq (.reg [m 18 5, m 19 6, o 20 (.callf 298 [(t 19)]), m 21 6, o 22 (.callf 299 [(t 21)]), o 23 (.build [(.d (.i .i64 0)), (.d (.i .i64 0))] [(0, 1, (t 20)), (1, 1, (t 22))]), o 24 (.bsl 380 2 1 [(.d (.i .i64 0)), (.d (.i .i64 0))] [(0, 2, (t 23))]), o 25 (.app 380 2 16 false (t 18) (t 24)), m 5 25])
 (.seq (.seq (.reg [m 26 0, m 27 6, o 28 (.iaS 16 (t 26) (t 27)), o 29 (.fadd 6 (t 28)), l 30 29, o 31 (.len 1 (t 30)), o 32 (.mv (k 0))])
 (.blk 2 (.loop (.seq (.reg [o 33 (b .lss (t 32) (t 31))])
 (.seq (.cond (t 33)
 .skip
 (.exit 2))
 (.seq (.blk 3 (.seq (.reg [o 34 (.iaS 1 (t 30) (t 32)), l 35 34, m 8 35])
 (.reg [m 36 5, m 37 8, o 38 (.callf 299 [(t 37)]), m 39 6, o 40 (.callf 298 [(t 39)]), o 41 (.build [(.d (.i .i64 0)), (.d (.i .i64 0))] [(0, 1, (t 38)), (1, 1, (t 40))]), o 42 (.bsl 380 2 1 [(.d (.i .i64 0)), (.d (.i .i64 0))] [(0, 2, (t 41))]), o 43 (.app 380 2 16 false (t 36) (t 42)), m 5 43])))
 (.reg [o 44 (b .add (t 32) (k 1)), m 32 44])))))))
 (.seq (.reg [m 45 0, m 46 6, o 47 (.iaS 16 (t 45) (t 46)), o 48 (.fadd 4 (t 47)), l 49 48, m 9 49])
 (.seq (.reg [m 50 9, o 51 (b .geq (t 50) (k 0))])
 (.cond (t 51)
 (.reg [m 52 5, m 53 9, o 54 (.callf 298 [(t 53)]), m 55 6, o 56 (.callf 298 [(t 55)]), o 57 (.build [(.d (.i .i64 0)), (.d (.i .i64 0))] [(0, 1, (t 54)), (1, 1, (t 56))]), m 58 6, o 59 (.callf 299 [(t 58)]), m 60 9, o 61 (.callf 299 [(t 60)]), o 62 (.build [(.d (.i .i64 0)), (.d (.i .i64 0))] [(0, 1, (t 59)), (1, 1, (t 61))]), o 63 (.bsl 380 2 2 [(.d (.i .i64 0)), (.d (.i .i64 0))] [(0, 2, (t 57)), (2, 2, (t 62))]), o 64 (.app 380 2 16 false (t 52) (t 63)), m 5 64])
 .skip))))))
 (.reg [m 16 6, o 17 (b .add (t 16) (k 1)), m 6 17]))))))
 (.seq (.reg [m 65 5, m 4 65])
 .ret)))), false⟩
/-- foreman/join.Due -/
def a214 : AFn := ⟨20, [.tmp 2],
 (.seq (.reg [o 1 (.box 49 (t 0)), o 2 (.mv (.c .nilsl))])
 (.seq (.reg [o 3 (.mv (.c .nilsl))])
 (.seq (.seq (.reg [o 5 (.fadd 6 (t 1)), l 6 5, o 7 (.len 1 (t 6)), o 8 (.mv (k 0))])
 (.blk 0 (.loop (.seq (.reg [o 9 (b .lss (t 8) (t 7))])
 (.seq (.cond (t 9)
 .skip
 (.exit 0))
 (.seq (.blk 1 (.seq (.reg [m 10 8, m 4 10])
 (.seq (.reg [o 11 (.load true 8 (t 1)), m 12 4, o 13 (.callf 300 [(t 11), (t 12)])])
 (.cond (t 13)
 (.reg [m 14 3, m 15 4, o 16 (.bsl 3 1 1 [(.d (.i .i64 0))] [(0, 1, (t 15))]), o 17 (.app 3 1 8 false (t 14) (t 16)), m 3 17])
 .skip))))
 (.reg [o 18 (b .add (t 8) (k 1)), m 8 18])))))))
 (.seq (.reg [m 19 3, m 2 19])
 .ret)))), false⟩
/-- foreman/join.Do -/
def a215 : AFn := ⟨46, [.cell 4 true 8, .tmp 5],
 (.seq (.reg [o 2 (.box 49 (t 0)), o 4 (.alloc 49 [(.d (.i .i64 0)), (.d (.i .i64 0)), (.d (.i .i64 0)), (.d (.i .i64 0)), (.d (.i .i64 0)), (.d (.i .i64 0)), .nilsl, (.d (.i .i64 0))]), o 5 (.mv (.c (.d (.b false))))])
 (.seq (.seq (.reg [o 6 (.load true 8 (t 2)), m 7 1, o 8 (.callf 157 [(t 6), (t 7)]), o 9 (.un .not (t 8)), m 10 9, og 11 (.load true 8 (t 2)) 10 false, mg 12 1 10 false, og 13 (.callf 300 [(t 11), (t 12)]) 10 false, og 14 (.un .not (t 13)) 10 false, o 15 (.pick (t 10) (.c (.d (.b true))) (t 14))])
 (.cond (t 15)
 (.seq (.reg [o 16 (.load true 8 (t 2)), o 17 (.callf 156 [(t 16)]), u (.store 8 (t 4) (t 17)), o 5 (.mv (.c (.d (.b false))))])
 .ret)
 .skip))
 (.seq (.reg [o 18 (.load true 8 (t 2)), o 19 (.callf 156 [(t 18)]), u (.store 8 (t 2) (t 19))])
 (.seq (.blk 0 (.seq (.reg [o 24 (.fadd 6 (t 2)), l 25 24, m 26 1, o 27 (.iaS 16 (t 25) (t 26)), o 28 (.fadd 9 (t 27)), l 29 28, o 30 (b .eql (t 29) (.c (.d (.i .u8 3)))), m 23 30])
 (.cond (t 23)
 (.reg [o 31 (.load true 8 (t 2)), m 32 1, o 33 (.callf 301 [(t 31), (t 32)])])
 (.seq (.reg [o 35 (.fadd 6 (t 2)), l 36 35, m 37 1, o 38 (.iaS 16 (t 36) (t 37)), o 39 (.fadd 2 (t 38)), l 40 39, o 41 (b .eql (t 40) (.c (.d (.i .u8 1)))), m 34 41])
 (.cond (t 34)
 (.reg [o 42 (.load true 8 (t 2)), m 43 1, o 44 (.callf 302 [(t 42), (t 43)]), u (.store 8 (t 2) (t 44))])
 (.reg [o 20 (.load true 8 (t 2)), m 21 1, o 22 (.callf 222 [(t 20), (t 21), (.c (.d (.i .u8 1)))])]))))))
 (.seq (.reg [o 45 (.load true 8 (t 2)), u (.store 8 (t 4) (t 45)), o 5 (.mv (.c (.d (.b true))))])
 .ret))))), false⟩
/-- (*foreman/order.Order).Len -/
def a216 : AFn := ⟨10, [.tmp 2],
 (.seq (.reg [o 2 (.mv (k 0))])
 (.seq (.seq (.reg [m 3 0, o 4 (.callf 82 [(t 3)])])
 (.cond (t 4)
 (.seq (.reg [o 2 (.mv (k 0))])
 .ret)
 .skip))
 (.seq (.reg [m 5 0, o 6 (.nilchk (t 5)), o 7 (.fadd 0 (t 6)), l 8 7, o 9 (.callf 303 [(t 8)]), m 2 9])
 .ret))), false⟩
/-- slices.ContainsFunc[[]foreman/api.Node,foreman/api.Node] -/
def a217 : AFn := ⟨9, [.tmp 4],
 (.seq (.reg [o 4 (.mv (.c (.d (.b false))))])
 (.seq (.reg [m 5 0, m 6 1, o 7 (.callf 154 [(t 5), (t 6)]), o 8 (b .geq (t 7) (k 0)), m 4 8])
 .ret)), false⟩
/-- foreman/flow.all$1 -/
def a218 : AFn := ⟨9, [.tmp 3],
 (.seq (.reg [o 2 (.box 83 (t 0)), o 3 (.mv (.c (.d (.b false))))])
 (.seq (.reg [l 4 1, o 5 (.fadd 9 (t 2)), l 6 5, o 7 (.callv (t 4) [(t 6)]), o 8 (.un .not (t 7)), m 3 8])
 .ret)), false⟩
/-- foreman/flow.not$1 -/
def a219 : AFn := ⟨8, [.tmp 3],
 (.seq (.reg [o 3 (.mv (.c (.d (.b false))))])
 (.seq (.reg [l 4 1, m 5 0, o 6 (.callv (t 4) [(t 5)]), o 7 (.un .not (t 6)), m 3 7])
 .ret)), false⟩
/-- foreman/flow.is$1 -/
def a220 : AFn := ⟨7, [.tmp 3],
 (.seq (.reg [o 3 (.mv (.c (.d (.b false))))])
 (.seq (.reg [m 4 0, l 5 1, o 6 (b .eql (t 4) (t 5)), m 3 6])
 .ret)), false⟩
/-- foreman/join.become -/
def a222 : AFn := ⟨28, [],
 (.seq (.reg [o 3 (.box 49 (t 0))])
 (.seq (.reg [o 7 (.fadd 6 (t 3)), l 8 7, m 9 1, o 10 (.iaS 16 (t 8) (t 9)), m 6 10])
 (.seq (.reg [m 11 6, m 12 6, m 13 2, o 14 (.nilchk (t 11)), o 15 (.fadd 9 (t 14)), u (.store 1 (t 15) (t 13)), o 16 (.nilchk (t 12)), o 17 (.fadd 11 (t 16)), u (.store 1 (t 17) (k 0))])
 (.seq (.reg [m 18 2, o 19 (b .eql (t 18) (.c (.d (.i .u8 5)))), m 20 19, mg 21 2 20 false, og 22 (b .eql (t 21) (.c (.d (.i .u8 6)))) 20 false, o 23 (.pick (t 20) (.c (.d (.b true))) (t 22))])
 (.cond (t 23)
 (.reg [m 24 6, o 25 (.build [(.d (.i .u8 0)), (.d (.i .i64 0)), (.d (.s [])), .nilsl] []), o 26 (.nilchk (t 24)), o 27 (.fadd 12 (t 26)), u (.store 4 (t 27) (t 25))])
 .skip))))), true⟩
/-- strings.splitSeq -/
def a223 : AFn := ⟨8, [.tmp 6],
 (.seq (.reg [o 3 (.box 9 (t 0)), o 4 (.box 9 (t 1)), o 5 (.box 3 (t 2)), o 6 (.mv (.c (.d .nilf)))])
 (.seq (.reg [o 7 (.mkfn (.func 306) [] [(t 4), (t 3), (t 5)]), m 6 7])
 .ret)), true⟩
/-- strconv.Atoi -/
def a224 : AFn := ⟨18, [.tmp 2, .tmp 3],
 (.seq (.reg [o 2 (.mv (k 0)), o 3 (.mv (.c (.d .nili)))])
 (.seq (.reg [m 7 0, o 8 (.callf 309 [(t 7)]), m 6 8, o 9 (.extr (t 6) 0), o 10 (.extr (t 6) 1), m 4 9, m 5 10])
 (.seq (.seq (.reg [m 11 5, o 12 (.bin .neq .iface (t 11) (.c (.d .nili)))])
 (.cond (t 12)
 (.seq (.reg [m 13 4, m 14 0, m 15 5, o 16 (.callf 310 [(.c (.d (.s [65, 116, 111, 105]))), (t 14), (k 0), (k 0), (t 15)]), m 2 13, m 3 16])
 .ret)
 .skip))
 (.seq (.reg [m 17 4, m 2 17, o 3 (.mv (.c (.d .nili)))])
 .ret)))), true⟩
/-- foreman/ident.may -/
def a225 : AFn := ⟨9, [.tmp 2],
 (.seq (.reg [o 2 (.mv (.c (.d (.b false))))])
 (.seq (.reg [m 3 0, o 4 (b .geq (t 3) (k 0)), m 5 4, mg 6 0 5 true, og 7 (b .leq (t 6) (k 999999)) 5 true, o 8 (.pick (t 5) (t 7) (.c (.d (.b false)))), m 2 8])
 .ret)), false⟩
/-- strconv.Itoa -/
def a226 : AFn := ⟨5, [.tmp 2],
 (.seq (.reg [o 2 (.mv (.c (.d (.s []))))])
 (.seq (.reg [m 3 0, o 4 (.callf 311 [(t 3)]), m 2 4])
 .ret)), false⟩
/-- slices.Values[[]byte,byte] -/
def a232 : AFn := ⟨4, [.tmp 2],
 (.seq (.reg [o 1 (.box 58 (t 0)), o 2 (.mv (.c (.d .nilf)))])
 (.seq (.reg [o 3 (.mkfn (.func 316) [] [(t 1)]), m 2 3])
 .ret)), false⟩
/-- foreman/crc.Next -/
def a233 : AFn := ⟨10, [.tmp 4],
 (.seq (.reg [o 4 (.mv (.c (.d (.i .u32 0))))])
 (.seq (.reg [m 5 0, o 6 (.un .xor (t 5)), m 7 1, o 8 (.callf 317 [(t 6), (t 7)]), o 9 (.un .xor (t 8)), m 4 9])
 .ret)), false⟩
/-- foreman/head.Right -/
def a234 : AFn := ⟨11, [.tmp 2],
 (.seq (.reg [o 1 (.box 94 (t 0)), o 2 (.mv (.c (.d (.b false))))])
 (.seq (.reg [o 3 (.fadd 0 (t 1)), l 4 3, o 5 (b .gtr (t 4) (.c (.d (.i .u64 0)))), m 6 5, og 7 (.fadd 2 (t 1)) 6 true, lg 8 7 6 true, og 9 (b .lss (t 8) (.c (.d (.i .u8 2)))) 6 true, o 10 (.pick (t 6) (t 9) (.c (.d (.b false)))), m 2 10])
 .ret)), false⟩
/-- foreman/head.put -/
def a235 : AFn := ⟨29, [],
 (.seq (.reg [m 7 0, m 8 1, m 9 1, o 10 (b .add (t 9) (k 8)), m 11 1, o 12 (b .add (t 11) (k 8)), o 13 (.slSl 1 (t 7) (some (t 8)) (some (t 10)) (some (t 12))), o 14 (.len 1 (t 13)), o 15 (.mv (k 0))])
 (.blk 0 (.loop (.seq (.reg [o 16 (b .lss (t 15) (t 14))])
 (.seq (.cond (t 16)
 .skip
 (.exit 0))
 (.seq (.blk 1 (.seq (.reg [m 17 15, m 6 17])
 (.reg [m 18 0, m 19 1, m 20 6, o 21 (b .add (t 19) (t 20)), m 22 2, m 23 6, o 24 (b .mul (k 8) (t 23)), o 25 (b .shr (t 22) (t 24)), o 26 (.cvi .u8 (t 25)), o 27 (.iaS 1 (t 18) (t 21)), u (.store 1 (t 27) (t 26))])))
 (.reg [o 28 (b .add (t 15) (k 1)), m 15 28]))))))), true⟩
/-- (*foreman/disk.Disk).Write$1 -/
def a236 : AFn := ⟨11, [],
 (.seq (.dreg 0 [⟨l 2 0, 0, false, [], none⟩, ⟨o 3 (.nilchk (t 2)), 1, false, [], none⟩, ⟨o 4 (.fadd 32 (t 3)), 2, false, [], none⟩, ⟨o 5 (.slArr 32 1 (t 4) none none none), 3, false, [], none⟩, ⟨l 6 1, 4, false, [], none⟩, ⟨o 7 (.copy 1 (t 5) (t 6)), 5, true, [], none⟩])
 (.reg [l 8 0, o 9 (.nilchk (t 8)), o 10 (.fadd 64 (t 9)), u (.store 1 (t 10) (.c (.d (.b true))))])), false⟩
/-- foreman/snap.fit -/
def a237 : AFn := ⟨6, [.tmp 2],
 (.seq (.reg [o 2 (.mv (.c (.d (.b false))))])
 (.seq (.reg [m 3 0, o 4 (.callf 318 [(t 3), (.c (.d (.fn (.func 319) [] [])))]), o 5 (.un .not (t 4)), m 2 5])
 .ret)), false⟩
/-- foreman/snap.Right$1 -/
def a238 : AFn := ⟨6, [.tmp 2],
 (.seq (.reg [o 1 (.box 83 (t 0)), o 2 (.mv (.c (.d (.b false))))])
 (.seq (.reg [o 3 (.load true 16 (t 1)), o 4 (.callf 239 [(t 3)]), o 5 (.un .not (t 4)), m 2 5])
 .ret)), false⟩
/-- foreman/snap.fits -/
def a239 : AFn := ⟨59, [.tmp 2],
 (.seq (.reg [o 1 (.box 83 (t 0)), o 2 (.mv (.c (.d (.b false))))])
 (.seq (.reg [o 5 (.fadd 2 (t 1)), l 6 5, o 7 (.cvi .i64 (t 6)), o 8 (.fadd 9 (t 1)), l 9 8, o 10 (.cvi .i64 (t 9)), o 11 (.build [(.d (.i .i64 0)), (.d (.i .i64 0))] [(0, 1, (t 7)), (1, 1, (t 10))]), o 12 (.box 362 (t 11)), m 3 12])
 (.seq (.reg [o 4 (.mv (.c (.d (.fn (.func 320) [] []))))])
 (.seq (.reg [o 13 (.fadd 0 (t 1)), l 14 13, o 15 (.callf 87 [(t 14)]), m 16 15, og 17 (.fadd 1 (t 1)) 16 true, lg 18 17 16 true, og 19 (b .eql (t 18) (.c (.d (.s [])))) 16 true, mg 20 19 16 true, og 21 (.fadd 1 (t 1)) 20 false, lg 22 21 20 false, og 23 (.callf 197 [(t 22)]) 20 false, og 24 (.pick (t 20) (.c (.d (.b true))) (t 23)) 16 true, o 25 (.pick (t 16) (t 24) (.c (.d (.b false)))), m 26 25, mg 27 3 26 true, og 28 (.callf 274 [(t 1), (t 27)]) 26 true, og 29 (.callf 237 [(t 28)]) 26 true, o 30 (.pick (t 26) (t 29) (.c (.d (.b false)))), m 31 30, mg 32 3 31 true, og 33 (.callf 275 [(t 1), (t 32)]) 31 true, og 34 (.callf 237 [(t 33)]) 31 true, o 35 (.pick (t 31) (t 34) (.c (.d (.b false)))), m 36 35, og 37 (.fadd 6 (t 1)) 36 true, lg 38 37 36 true, og 39 (.len 1 (t 38)) 36 true, og 40 (b .leq (t 39) (k 21)) 36 true, o 41 (.pick (t 36) (t 40) (.c (.d (.b false)))), m 42 41, og 43 (.fadd 6 (t 1)) 42 true, lg 44 43 42 true, mg 45 4 42 true, og 46 (.callf 321 [(t 44), (t 45)]) 42 true, og 47 (.un .not (t 46)) 42 true, o 48 (.pick (t 42) (t 47) (.c (.d (.b false)))), m 49 48, og 50 (.fadd 11 (t 1)) 49 true, lg 51 50 49 true, og 52 (b .geq (t 51) (k 0)) 49 true, o 53 (.pick (t 49) (t 52) (.c (.d (.b false)))), m 54 53, og 55 (.fadd 12 (t 1)) 54 true, og 56 (.load true 4 (t 55)) 54 true, og 57 (.callf 88 [(t 56)]) 54 true, o 58 (.pick (t 54) (t 57) (.c (.d (.b false)))), m 2 58])
 .ret)))), false⟩
/-- foreman/scope.Right -/
def a240 : AFn := ⟨38, [.tmp 2],
 (.seq (.reg [o 2 (.mv (.c (.d (.b false))))])
 (.seq (.seq (.reg [m 5 0, o 6 (.len 1 (t 5)), o 7 (.mv (k 0))])
 (.blk 0 (.loop (.seq (.reg [o 8 (b .lss (t 7) (t 6))])
 (.seq (.cond (t 8)
 .skip
 (.exit 0))
 (.seq (.blk 1 (.seq (.reg [m 9 7, o 10 (.iaS 16 (t 5) (t 7)), o 11 (.load true 16 (t 10)), o 4 (.alloc 83 [(.d (.s [])), (.d (.s [])), (.d (.i .u8 0)), (.d (.i .i64 0)), (.d (.i .i64 0)), (.d (.i .i64 0)), .nilsl, (.d (.i .i64 0)), (.d (.i .i64 0)), (.d (.i .u8 0)), (.d (.i .i64 0)), (.d (.i .i64 0)), (.d (.i .u8 0)), (.d (.i .i64 0)), (.d (.s [])), .nilsl]), m 3 9, u (.store 16 (t 4) (t 11))])
 (.seq (.dreg 0 [⟨o 12 (.fadd 4 (t 4)), 0, false, [], none⟩, ⟨l 13 12, 1, false, [], none⟩, ⟨o 14 (b .lss (t 13) (k (-1))), 2, false, [], none⟩, ⟨m 15 14, 3, false, [], none⟩, ⟨og 16 (.fadd 4 (t 4)) 15 false, 4, false, [], none⟩, ⟨lg 17 16 15 false, 5, false, [], none⟩, ⟨mg 18 3 15 false, 6, false, [], none⟩, ⟨og 19 (b .geq (t 17) (t 18)) 15 false, 7, false, [], none⟩, ⟨o 20 (.pick (t 15) (.c (.d (.b true))) (t 19)), 8, false, [], none⟩, ⟨m 21 20, 9, false, [], none⟩, ⟨og 22 (.fadd 4 (t 4)) 21 false, 10, false, [], none⟩, ⟨lg 23 22 21 false, 11, false, [], none⟩, ⟨og 24 (b .geq (t 23) (k 0)) 21 false, 12, false, [], none⟩, ⟨mg 25 24 21 false, 13, false, [], none⟩, ⟨mg 26 0 25 true, 14, false, [], none⟩, ⟨og 27 (.fadd 4 (t 4)) 25 true, 15, false, [], none⟩, ⟨lg 28 27 25 true, 16, false, [], none⟩, ⟨og 29 (.iaS 16 (t 26) (t 28)) 25 true, 17, false, [], none⟩, ⟨og 30 (.fadd 3 (t 29)) 25 true, 18, false, [], none⟩, ⟨lg 31 30 25 true, 19, false, [], none⟩, ⟨og 32 (.fadd 3 (t 4)) 25 true, 20, false, [], none⟩, ⟨lg 33 32 25 true, 21, false, [], none⟩, ⟨og 34 (b .neq (t 31) (t 33)) 25 true, 22, false, [], none⟩, ⟨og 35 (.pick (t 25) (t 34) (.c (.d (.b false)))) 21 false, 23, false, [], none⟩, ⟨o 36 (.pick (t 21) (.c (.d (.b true))) (t 35)), 24, false, [], none⟩])
 (.cond (t 36)
 (.seq (.reg [o 2 (.mv (.c (.d (.b false))))])
 .ret)
 .skip))))
 (.reg [o 37 (b .add (t 7) (k 1)), m 7 37])))))))
 (.seq (.reg [o 2 (.mv (.c (.d (.b true))))])
 .ret))), false⟩
/-- (*foreman/flow.judge).each -/
def a241 : AFn := ⟨24, [.tmp 4],
 (.seq (.reg [o 4 (.mv (.c (.d (.b false))))])
 (.seq (.seq (.reg [m 7 0, o 8 (.nilchk (t 7)), o 9 (.fadd 0 (t 8)), o 10 (.fadd 6 (t 9)), l 11 10, o 12 (.len 1 (t 11)), o 13 (.mv (k 0))])
 (.blk 0 (.loop (.seq (.reg [o 14 (b .lss (t 13) (t 12))])
 (.seq (.cond (t 14)
 .skip
 (.exit 0))
 (.seq (.blk 1 (.seq (.reg [m 15 13, o 16 (.iaS 16 (t 11) (t 13)), o 17 (.load true 16 (t 16)), o 6 (.alloc 83 [(.d (.s [])), (.d (.s [])), (.d (.i .u8 0)), (.d (.i .i64 0)), (.d (.i .i64 0)), (.d (.i .i64 0)), .nilsl, (.d (.i .i64 0)), (.d (.i .i64 0)), (.d (.i .u8 0)), (.d (.i .i64 0)), (.d (.i .i64 0)), (.d (.i .u8 0)), (.d (.i .i64 0)), (.d (.s [])), .nilsl]), m 5 15, u (.store 16 (t 6) (t 17))])
 (.seq (.reg [m 18 1, m 19 5, o 20 (.load true 16 (t 6)), o 21 (.callv (t 18) [(t 19), (t 20)]), o 22 (.un .not (t 21))])
 (.cond (t 22)
 (.seq (.reg [o 4 (.mv (.c (.d (.b false))))])
 .ret)
 .skip))))
 (.reg [o 23 (b .add (t 13) (k 1)), m 13 23])))))))
 (.seq (.reg [o 4 (.mv (.c (.d (.b true))))])
 .ret))), false⟩
/-- (*foreman/flow.judge).sorted -/
def a250 : AFn := ⟨111, [.tmp 2],
 (.seq (.reg [o 2 (.mv (.c (.d (.b false))))])
 (.seq (.reg [m 14 0, o 15 (.nilchk (t 14)), o 16 (.fadd 0 (t 15)), o 17 (.fadd 6 (t 16)), l 18 17, o 19 (.callf 213 [(t 18), (k 0)]), m 3 19])
 (.seq (.reg [m 20 0, o 21 (.nilchk (t 20)), o 22 (.fadd 0 (t 21)), o 23 (.fadd 6 (t 22)), l 24 23, o 25 (.len 1 (t 24)), o 26 (b .mul (k 2) (t 25)), o 27 (.mksl 3 1 8 [(.d (.i .i64 0))] (t 26) (t 26)), m 4 27])
 (.seq (.reg [m 28 4, o 29 (.len 1 (t 28)), o 30 (.mksl 81 1 24 [.nilsl] (t 29) (t 29)), m 5 30])
 (.seq (.seq (.reg [m 31 3, o 32 (.len 1 (t 31)), o 33 (.mv (k 0))])
 (.blk 0 (.loop (.seq (.reg [o 34 (b .lss (t 33) (t 32))])
 (.seq (.cond (t 34)
 .skip
 (.exit 0))
 (.seq (.blk 1 (.seq (.reg [o 35 (.iaS 2 (t 31) (t 33)), o 36 (.load true 2 (t 35)), o 7 (.alloc 380 [(.d (.i .i64 0)), (.d (.i .i64 0))]), u (.store 2 (t 7) (t 36))])
 (.seq (.reg [m 37 4, o 38 (.fadd 1 (t 7)), l 39 38, o 40 (.iaS 1 (t 37) (t 39)), l 41 40, o 42 (b .add (t 41) (k 1)), o 43 (.iaS 1 (t 37) (t 39)), u (.store 1 (t 43) (t 42))])
 (.dreg 1 [⟨m 47 5, 3, false, [], none⟩, ⟨o 48 (.fadd 0 (t 7)), 4, false, [], none⟩, ⟨l 49 48, 5, false, [], none⟩, ⟨o 50 (.iaS 1 (t 47) (t 49)), 6, false, [], none⟩, ⟨l 51 50, 7, false, [], none⟩, ⟨o 52 (.fadd 1 (t 7)), 8, false, [], none⟩, ⟨l 53 52, 9, false, [], none⟩, ⟨o 54 (.bsl 3 1 1 [(.d (.i .i64 0))] [(0, 1, (t 53))]), 10, false, [], (some 0)⟩, ⟨o 55 (.app 3 1 8 false (t 51) (t 54)), 11, true, [], none⟩, ⟨m 44 5, 0, false, [], none⟩, ⟨o 45 (.fadd 0 (t 7)), 1, false, [], none⟩, ⟨l 46 45, 2, false, [], none⟩, ⟨o 56 (.iaS 1 (t 44) (t 46)), 12, false, [11], none⟩, ⟨u (.store 1 (t 56) (t 55)), 13, true, [], none⟩]))))
 (.reg [o 57 (b .add (t 33) (k 1)), m 33 57])))))))
 (.seq (.reg [o 8 (.mv (.c .nilsl))])
 (.seq (.seq (.reg [m 58 4, o 59 (.len 1 (t 58)), o 60 (.mv (k 0))])
 (.blk 2 (.loop (.seq (.reg [o 61 (b .lss (t 60) (t 59))])
 (.seq (.cond (t 61)
 .skip
 (.exit 2))
 (.seq (.blk 3 (.seq (.reg [m 62 60, o 63 (.iaS 1 (t 58) (t 60)), l 64 63, m 9 62, m 10 64])
 (.seq (.reg [m 65 10, o 66 (b .eql (t 65) (k 0))])
 (.cond (t 66)
 (.reg [m 67 8, m 68 9, o 69 (.bsl 3 1 1 [(.d (.i .i64 0))] [(0, 1, (t 68))]), o 70 (.app 3 1 8 false (t 67) (t 69)), m 8 70])
 .skip))))
 (.reg [o 71 (b .add (t 60) (k 1)), m 60 71])))))))
 (.seq (.seq (.reg [o 11 (.mv (k 0))])
 (.blk 4 (.loop (.seq (.seq (.reg [m 72 11, m 73 8, o 74 (.len 1 (t 73)), o 75 (b .lss (t 72) (t 74))])
 (.cond (t 75)
 .skip
 (.exit 4)))
 (.seq (.blk 5 (.seq (.reg [m 78 5, m 79 8, m 80 11, o 81 (.iaS 1 (t 79) (t 80)), l 82 81, o 83 (.iaS 1 (t 78) (t 82)), l 84 83, o 85 (.len 1 (t 84)), o 86 (.mv (k 0))])
 (.blk 6 (.loop (.seq (.reg [o 87 (b .lss (t 86) (t 85))])
 (.seq (.cond (t 87)
 .skip
 (.exit 6))
 (.seq (.blk 7 (.seq (.reg [o 88 (.iaS 1 (t 84) (t 86)), l 89 88, m 13 89])
 (.seq (.reg [m 90 4, m 91 13, o 92 (.iaS 1 (t 90) (t 91)), l 93 92, o 94 (b .sub (t 93) (k 1)), o 95 (.iaS 1 (t 90) (t 91)), u (.store 1 (t 95) (t 94))])
 (.seq (.reg [m 96 4, m 97 13, o 98 (.iaS 1 (t 96) (t 97)), l 99 98, o 100 (b .eql (t 99) (k 0))])
 (.cond (t 100)
 (.reg [m 101 8, m 102 13, o 103 (.bsl 3 1 1 [(.d (.i .i64 0))] [(0, 1, (t 102))]), o 104 (.app 3 1 8 false (t 101) (t 103)), m 8 104])
 .skip)))))
 (.reg [o 105 (b .add (t 86) (k 1)), m 86 105]))))))))
 (.reg [m 76 11, o 77 (b .add (t 76) (k 1)), m 11 77]))))))
 (.seq (.reg [m 106 8, o 107 (.len 1 (t 106)), m 108 4, o 109 (.len 1 (t 108)), o 110 (b .eql (t 107) (t 109)), m 2 110])
 .ret))))))))), false⟩
/-- foreman/scope.Deep -/
def a252 : AFn := ⟨17, [.tmp 4],
 (.seq (.reg [o 4 (.mv (k 0))])
 (.seq (.seq (.reg [m 6 0, m 7 1, o 8 (.callf 314 [(t 6), (t 7)]), o 9 (.un .not (t 8))])
 (.cond (t 9)
 (.seq (.reg [o 4 (.mv (k 0))])
 .ret)
 .skip))
 (.seq (.reg [o 5 (.alloc 3 [(.d (.i .i64 0))]), u (.store 1 (t 5) (k 1))])
 (.seq (.seq (.reg [m 10 0, m 11 1, o 12 (.callf 322 [(t 10), (t 11)])])
 (.blk 0 (.rfun (t 12) [13] .skip (.blk 1 (.reg [l 14 5, o 15 (b .add (t 14) (k 1)), u (.store 1 (t 5) (t 15))])))))
 (.seq (.reg [l 16 5, m 4 16])
 .ret))))), false⟩
/-- (*foreman/flow.judge).flows -/
def a254 : AFn := ⟨43, [.tmp 4],
 (.seq (.reg [o 4 (.mv (.c (.d (.b false))))])
 (.seq (.seq (.reg [m 9 0, o 10 (.nilchk (t 9)), o 11 (.fadd 0 (t 10)), o 12 (.fadd 5 (t 11)), l 13 12, o 14 (.mv (k 0))])
 (.blk 0 (.loop (.seq (.reg [o 15 (b .lss (t 14) (t 13))])
 (.seq (.cond (t 15)
 .skip
 (.exit 0))
 (.seq (.blk 1 (.seq (.reg [m 16 14, m 5 16])
 (.seq (.reg [o 6 (.mv (.c .nilsl))])
 (.seq (.seq (.reg [m 17 0, o 18 (.nilchk (t 17)), o 19 (.fadd 0 (t 18)), o 20 (.fadd 6 (t 19)), l 21 20, o 22 (.len 1 (t 21)), o 23 (.mv (k 0))])
 (.blk 2 (.loop (.seq (.reg [o 24 (b .lss (t 23) (t 22))])
 (.seq (.cond (t 24)
 .skip
 (.exit 2))
 (.seq (.blk 3 (.seq (.reg [m 25 23, o 26 (.iaS 16 (t 21) (t 23)), o 27 (.load true 16 (t 26)), o 8 (.alloc 83 [(.d (.s [])), (.d (.s [])), (.d (.i .u8 0)), (.d (.i .i64 0)), (.d (.i .i64 0)), (.d (.i .i64 0)), .nilsl, (.d (.i .i64 0)), (.d (.i .i64 0)), (.d (.i .u8 0)), (.d (.i .i64 0)), (.d (.i .i64 0)), (.d (.i .u8 0)), (.d (.i .i64 0)), (.d (.s [])), .nilsl]), m 7 25, u (.store 16 (t 8) (t 27))])
 (.seq (.reg [o 28 (.fadd 3 (t 8)), l 29 28, m 30 5, o 31 (b .eql (t 29) (t 30))])
 (.cond (t 31)
 (.reg [m 32 6, m 33 7, o 34 (.bsl 3 1 1 [(.d (.i .i64 0))] [(0, 1, (t 33))]), o 35 (.app 3 1 8 false (t 32) (t 34)), m 6 35])
 .skip))))
 (.reg [o 36 (b .add (t 23) (k 1)), m 23 36])))))))
 (.seq (.reg [m 37 1, m 38 5, m 39 6, o 40 (.callv (t 37) [(t 38), (t 39)]), o 41 (.un .not (t 40))])
 (.cond (t 41)
 (.seq (.reg [o 4 (.mv (.c (.d (.b false))))])
 .ret)
 .skip))))))
 (.reg [o 42 (b .add (t 14) (k 1)), m 14 42])))))))
 (.seq (.reg [o 4 (.mv (.c (.d (.b true))))])
 .ret))), false⟩
/-- foreman/graph.New -/
def a264 : AFn := ⟨14, [.tmp 2, .tmp 3],
 (.seq (.reg [o 2 (.mv (.c (.d .nilp))), o 3 (.mv (k 0))])
 (.seq (.seq (.reg [m 4 0, o 5 (b .lss (t 4) (k 0)), m 6 5, mg 7 0 6 false, og 8 (b .gtr (t 7) (k 10000)) 6 false, o 9 (.pick (t 6) (.c (.d (.b true))) (t 8))])
 (.cond (t 9)
 (.seq (.reg [o 2 (.mv (.c (.d .nilp))), o 3 (.mv (k 2))])
 .ret)
 .skip))
 (.seq (.reg [m 10 0, o 11 (.mksl 214 2 48 [.nilsl, .nilsl] (t 10) (t 10)), o 12 (.build [(.d (.b false)), .nilsl] [(0, 1, (.c (.d (.b true)))), (1, 1, (t 11))]), o 13 (.box 216 (t 12)), m 2 13, o 3 (.mv (k 0))])
 .ret))), true⟩
/-- (*foreman/order.Order).Grow -/
def a265 : AFn := ⟨52, [.tmp 4],
 (.seq (.reg [o 4 (.mv (k 0))])
 (.seq (.seq (.reg [m 7 0, o 8 (.callf 82 [(t 7)])])
 (.cond (t 8)
 (.seq (.reg [o 4 (.mv (k 1))])
 .ret)
 .skip))
 (.seq (.seq (.reg [m 9 0, o 10 (.nilchk (t 9)), o 11 (.fadd 0 (t 10)), l 12 11, m 13 1, o 14 (.callf 324 [(t 12), (t 13)]), m 5 14])
 (.seq (.reg [m 15 5, o 16 (b .neq (t 15) (k 0))])
 (.cond (t 16)
 (.seq (.reg [m 17 5, m 4 17])
 .ret)
 .skip)))
 (.seq (.seq (.reg [m 18 0, o 19 (.nilchk (t 18)), o 20 (.fadd 1 (t 19)), l 21 20, o 22 (.len 1 (t 21)), m 6 22])
 (.blk 0 (.loop (.seq (.seq (.reg [m 23 6, m 24 0, o 25 (.nilchk (t 24)), o 26 (.fadd 0 (t 25)), l 27 26, o 28 (.callf 303 [(t 27)]), o 29 (b .lss (t 23) (t 28))])
 (.cond (t 29)
 .skip
 (.exit 0)))
 (.seq (.blk 1 (.dreg 2 [⟨m 34 0, 2, false, [], none⟩, ⟨o 35 (.nilchk (t 34)), 3, false, [], none⟩, ⟨o 36 (.fadd 1 (t 35)), 4, false, [], none⟩, ⟨l 37 36, 5, false, [], none⟩, ⟨m 38 6, 6, false, [], none⟩, ⟨o 39 (.bsl 3 1 1 [(.d (.i .i64 0))] [(0, 1, (t 38))]), 7, false, [], (some 0)⟩, ⟨o 40 (.app 3 1 8 true (t 37) (t 39)), 8, true, [], none⟩, ⟨m 41 0, 9, false, [], none⟩, ⟨o 42 (.nilchk (t 41)), 10, false, [], none⟩, ⟨o 43 (.fadd 2 (t 42)), 11, false, [], none⟩, ⟨l 44 43, 12, false, [], none⟩, ⟨m 45 6, 13, false, [], none⟩, ⟨o 46 (.bsl 3 1 1 [(.d (.i .i64 0))] [(0, 1, (t 45))]), 14, false, [], (some 1)⟩, ⟨o 47 (.app 3 1 8 true (t 44) (t 46)), 15, true, [], none⟩, ⟨m 32 0, 0, false, [], none⟩, ⟨o 48 (.nilchk (t 32)), 16, false, [15, 8], none⟩, ⟨o 49 (.fadd 1 (t 48)), 17, false, [15, 8], none⟩, ⟨u (.store 1 (t 49) (t 40)), 18, true, [], none⟩, ⟨m 33 0, 1, false, [], none⟩, ⟨o 50 (.nilchk (t 33)), 19, false, [18, 15, 8], none⟩, ⟨o 51 (.fadd 2 (t 50)), 20, false, [18, 15, 8], none⟩, ⟨u (.store 1 (t 51) (t 47)), 21, true, [], none⟩]))
 (.reg [m 30 6, o 31 (b .add (t 30) (k 1)), m 6 31]))))))
 (.seq (.reg [o 4 (.mv (k 0))])
 .ret))))), false⟩
/-- foreman/head.get -/
def a266 : AFn := ⟨30, [.tmp 4],
 (.seq (.reg [o 4 (.mv (.c (.d (.i .u64 0))))])
 (.seq (.reg [o 5 (.mv (.c (.d (.i .u64 0))))])
 (.seq (.seq (.reg [m 8 0, m 9 1, m 10 1, o 11 (b .add (t 10) (k 8)), m 12 1, o 13 (b .add (t 12) (k 8)), o 14 (.slSl 1 (t 8) (some (t 9)) (some (t 11)) (some (t 13))), o 15 (.len 1 (t 14)), o 16 (.mv (k 0))])
 (.blk 0 (.loop (.seq (.reg [o 17 (b .lss (t 16) (t 15))])
 (.seq (.cond (t 17)
 .skip
 (.exit 0))
 (.seq (.blk 1 (.seq (.reg [m 18 16, o 19 (.iaS 1 (t 14) (t 16)), l 20 19, m 6 18, m 7 20])
 (.reg [m 21 5, m 22 7, o 23 (.cvi .u64 (t 22)), m 24 6, o 25 (b .mul (k 8) (t 24)), o 26 (b .shl (t 23) (t 25)), o 27 (b .or (t 21) (t 26)), m 5 27])))
 (.reg [o 28 (b .add (t 16) (k 1)), m 16 28])))))))
 (.seq (.reg [m 29 5, m 4 29])
 .ret)))), false⟩
/-- foreman/op.read -/
def a267 : AFn := ⟨105, [.cell 2 true 9, .tmp 3, .tmp 4],
 (.seq (.reg [o 2 (.alloc 27 [(.d (.i .u8 0)), (.d (.s [])), (.d (.i .i64 0)), (.d (.i .u8 0)), (.d (.i .i64 0)), (.d (.s [])), .nilsl, .nilsl, (.d (.i .i64 0))]), o 3 (.mv (.c .nilsl)), o 4 (.mv (k 0))])
 (.seq (.reg [m 9 0, o 10 (.callf 325 [(t 9)]), m 8 10, o 11 (.extr (t 8) 0), o 12 (.extr (t 8) 1), o 13 (.extr (t 8) 2), m 5 11, m 3 12, m 4 13])
 (.seq (.seq (.reg [m 14 4, o 15 (b .neq (t 14) (k 0)), m 16 15, mg 17 5 16 false, og 18 (b .lss (t 17) (k 0)) 16 false, o 19 (.pick (t 16) (.c (.d (.b true))) (t 18)), m 20 19, mg 21 5 20 false, og 22 (b .gtr (t 21) (k 5)) 20 false, o 23 (.pick (t 20) (.c (.d (.b true))) (t 22))])
 (.cond (t 23)
 (.seq (.reg [o 24 (.load true 9 (t 2)), u (.store 9 (t 2) (t 24)), o 3 (.mv (.c .nilsl)), o 4 (.mv (k 30))])
 .ret)
 .skip))
 (.seq (.reg [m 25 5, o 26 (.cvi .u8 (t 25)), o 27 (.fadd 0 (t 2)), u (.store 1 (t 27) (t 26))])
 (.seq (.reg [o 28 (.fadd 0 (t 2)), l 29 28, o 30 (.callf 84 [(t 29)]), m 6 30])
 (.seq (.seq (.reg [m 31 6, o 32 (b .and (t 31) (.c (.d (.i .u8 4)))), o 33 (b .neq (t 32) (.c (.d (.i .u8 0)))), m 34 33, mg 35 4 34 true, og 36 (b .eql (t 35) (k 0)) 34 true, o 37 (.pick (t 34) (t 36) (.c (.d (.b false))))])
 (.cond (t 37)
 (.reg [m 39 3, o 40 (.callf 326 [(t 39), (k 400)]), m 38 40, o 41 (.extr (t 38) 0), o 42 (.extr (t 38) 1), o 43 (.extr (t 38) 2), o 44 (.fadd 1 (t 2)), u (.store 1 (t 44) (t 41)), m 3 42, m 4 43])
 .skip))
 (.seq (.seq (.reg [m 45 6, o 46 (b .and (t 45) (.c (.d (.i .u8 8)))), o 47 (b .neq (t 46) (.c (.d (.i .u8 0)))), m 48 47, mg 49 4 48 true, og 50 (b .eql (t 49) (k 0)) 48 true, o 51 (.pick (t 48) (t 50) (.c (.d (.b false))))])
 (.cond (t 51)
 (.reg [m 53 3, o 54 (.callf 325 [(t 53)]), m 52 54, o 55 (.extr (t 52) 0), o 56 (.extr (t 52) 1), o 57 (.extr (t 52) 2), o 58 (.fadd 2 (t 2)), u (.store 1 (t 58) (t 55)), m 3 56, m 4 57])
 .skip))
 (.seq (.seq (.reg [m 59 6, o 60 (b .and (t 59) (.c (.d (.i .u8 16)))), o 61 (b .neq (t 60) (.c (.d (.i .u8 0)))), m 62 61, mg 63 4 62 true, og 64 (b .eql (t 63) (k 0)) 62 true, o 65 (.pick (t 62) (t 64) (.c (.d (.b false))))])
 (.cond (t 65)
 (.reg [m 67 3, o 68 (.callf 327 [(t 67)]), m 66 68, o 69 (.extr (t 66) 0), o 70 (.extr (t 66) 1), o 71 (.extr (t 66) 2), o 72 (.fadd 3 (t 2)), u (.store 4 (t 72) (t 69)), m 3 70, m 4 71])
 .skip))
 (.seq (.seq (.reg [m 73 6, o 74 (b .and (t 73) (.c (.d (.i .u8 1)))), o 75 (b .neq (t 74) (.c (.d (.i .u8 0)))), m 76 75, mg 77 4 76 true, og 78 (b .eql (t 77) (k 0)) 76 true, o 79 (.pick (t 76) (t 78) (.c (.d (.b false))))])
 (.cond (t 79)
 (.reg [m 81 3, o 82 (.callf 328 [(t 81)]), m 80 82, o 83 (.extr (t 80) 0), o 84 (.extr (t 80) 1), o 85 (.extr (t 80) 2), o 86 (.fadd 7 (t 2)), u (.store 1 (t 86) (t 83)), m 3 84, m 4 85])
 .skip))
 (.seq (.seq (.reg [m 87 6, o 88 (b .and (t 87) (.c (.d (.i .u8 2)))), o 89 (b .neq (t 88) (.c (.d (.i .u8 0)))), m 90 89, mg 91 4 90 true, og 92 (b .eql (t 91) (k 0)) 90 true, o 93 (.pick (t 90) (t 92) (.c (.d (.b false))))])
 (.cond (t 93)
 (.seq (.reg [o 7 (.mv (k 0))])
 (.seq (.reg [m 95 3, o 96 (.callf 325 [(t 95)]), m 94 96, o 97 (.extr (t 94) 0), o 98 (.extr (t 94) 1), o 99 (.extr (t 94) 2), m 7 97, m 3 98, m 4 99])
 (.reg [m 100 7, o 101 (.fadd 8 (t 2)), u (.store 1 (t 101) (t 100))])))
 .skip))
 (.seq (.reg [o 102 (.load true 9 (t 2)), m 103 3, m 104 4, u (.store 9 (t 2) (t 102)), m 3 103, m 4 104])
 .ret))))))))))), false⟩
/-- (*foreman/snap.reader).all -/
def a268 : AFn := ⟨18, [],
 (.seq (.reg [o 2 (.box 347 (t 0))])
 (.seq (.reg [o 7 (.mkfn (.func 329) [] [(t 2)]), m 4 7])
 (.seq (.reg [m 8 1, o 9 (.len 1 (t 8)), o 10 (.mv (k 0))])
 (.blk 0 (.loop (.seq (.reg [o 11 (b .lss (t 10) (t 9))])
 (.seq (.cond (t 11)
 .skip
 (.exit 0))
 (.seq (.blk 1 (.seq (.reg [o 12 (.iaS 3 (t 8) (t 10)), o 13 (.load true 3 (t 12)), o 6 (.alloc 357 [(.d .nilp), (.d (.i .i64 0)), (.d (.i .i64 0))]), u (.store 3 (t 6) (t 13))])
 (.reg [m 14 4, o 15 (.load true 3 (t 6)), o 16 (.callv (t 14) [(t 15)])])))
 (.reg [o 17 (b .add (t 10) (k 1)), m 10 17]))))))))), false⟩
/-- (*foreman/snap.reader).num -/
def a269 : AFn := ⟨49, [.tmp 6],
 (.seq (.reg [o 6 (.mv (k 0))])
 (.seq (.reg [m 11 0, o 12 (.nilchk (t 11)), o 13 (.fadd 0 (t 12)), l 14 13, o 15 (.callf 325 [(t 14)]), m 10 15, o 16 (.extr (t 10) 0), o 17 (.extr (t 10) 1), o 18 (.extr (t 10) 2), m 7 16, m 8 17, m 9 18])
 (.seq (.seq (.reg [m 19 0, m 20 0, o 21 (.nilchk (t 20)), o 22 (.fadd 1 (t 21)), l 23 22, m 24 23, mg 25 9 24 false, og 26 (b .neq (t 25) (k 0)) 24 false, o 27 (.pick (t 24) (.c (.d (.b true))) (t 26)), m 28 27, mg 29 7 28 false, mg 30 1 28 false, og 31 (b .lss (t 29) (t 30)) 28 false, o 32 (.pick (t 28) (.c (.d (.b true))) (t 31)), m 33 32, mg 34 7 33 false, mg 35 2 33 false, og 36 (b .gtr (t 34) (t 35)) 33 false, o 37 (.pick (t 33) (.c (.d (.b true))) (t 36)), o 38 (.nilchk (t 19)), o 39 (.fadd 1 (t 38)), u (.store 1 (t 39) (t 37))])
 (.seq (.reg [m 40 0, o 41 (.nilchk (t 40)), o 42 (.fadd 1 (t 41)), l 43 42])
 (.cond (t 43)
 (.seq (.reg [o 6 (.mv (k 0))])
 .ret)
 .skip)))
 (.seq (.reg [m 44 0, m 45 8, o 46 (.nilchk (t 44)), o 47 (.fadd 0 (t 46)), u (.store 1 (t 47) (t 45))])
 (.seq (.reg [m 48 7, m 6 48])
 .ret))))), false⟩
/-- slices.AppendSeq[[]byte,byte] -/
def a271 : AFn := ⟨13, [.tmp 4],
 (.seq (.reg [o 2 (.box 58 (t 0)), o 4 (.mv (.c .nilsl))])
 (.seq (.seq (.reg [m 6 1])
 (.blk 0 (.rfun (t 6) [7] (.reg [m 5 7]) (.blk 1 (.reg [l 8 2, m 9 5, o 10 (.bsl 5 1 1 [(.d (.i .u8 0))] [(0, 1, (t 9))]), o 11 (.app 5 1 1 false (t 8) (t 10)), u (.store 1 (t 2) (t 11))])))))
 (.seq (.reg [l 12 2, m 4 12])
 .ret))), true⟩
/-- foreman/wire.groups -/
def a272 : AFn := ⟨4, [.tmp 2],
 (.seq (.reg [o 1 (.box 2 (t 0)), o 2 (.mv (.c (.d .nilf)))])
 (.seq (.reg [o 3 (.mkfn (.func 331) [] [(t 1)]), m 2 3])
 .ret)), false⟩
/-- foreman/snap.nums$1 -/
def a273 : AFn := ⟨9, [],
 (.seq (.reg [o 2 (.box 357 (t 0))])
 (.dreg 0 [⟨l 3 1, 0, false, [], none⟩, ⟨o 4 (.fadd 0 (t 2)), 1, false, [], none⟩, ⟨l 5 4, 2, false, [], none⟩, ⟨o 6 (.nilchk (t 5)), 3, false, [], none⟩, ⟨l 7 6, 4, false, [], none⟩, ⟨o 8 (.callf 187 [(t 3), (t 7)]), 5, true, [], none⟩, ⟨u (.store 1 (t 1) (t 8)), 6, true, [], none⟩])), false⟩
/-- foreman/snap.first -/
def a274 : AFn := ⟨22, [.tmp 4],
 (.seq (.reg [o 4 (.mv (.c .nilsl))])
 (.seq (.dreg 1 [⟨m 5 1, 0, false, [], none⟩, ⟨o 6 (.nilchk (t 5)), 1, false, [], none⟩, ⟨o 7 (.fadd 0 (t 6)), 2, false, [], none⟩, ⟨o 8 (.build [(.d .nilp), (.d (.i .i64 0)), (.d (.i .i64 0))] [(0, 1, (t 7)), (1, 1, (k 0)), (2, 1, (k 2))]), 3, false, [], none⟩, ⟨m 9 0, 4, false, [], none⟩, ⟨o 10 (.nilchk (t 9)), 5, false, [], none⟩, ⟨o 11 (.fadd 3 (t 10)), 6, false, [], none⟩, ⟨o 12 (.build [(.d .nilp), (.d (.i .i64 0)), (.d (.i .i64 0))] [(0, 1, (t 11)), (1, 1, (k 0)), (2, 1, (k 12))]), 7, false, [], none⟩, ⟨m 13 0, 8, false, [], none⟩, ⟨o 14 (.nilchk (t 13)), 9, false, [], none⟩, ⟨o 15 (.fadd 4 (t 14)), 10, false, [], none⟩, ⟨o 16 (.build [(.d .nilp), (.d (.i .i64 0)), (.d (.i .i64 0))] [(0, 1, (t 15)), (1, 1, (k (-1))), (2, 1, (k 4799))]), 11, false, [], none⟩, ⟨m 17 0, 12, false, [], none⟩, ⟨o 18 (.nilchk (t 17)), 13, false, [], none⟩, ⟨o 19 (.fadd 5 (t 18)), 14, false, [], none⟩, ⟨o 20 (.build [(.d .nilp), (.d (.i .i64 0)), (.d (.i .i64 0))] [(0, 1, (t 19)), (1, 1, (k (-1))), (2, 1, (k 999999))]), 15, false, [], none⟩, ⟨o 21 (.bsl 357 3 4 [(.d .nilp), (.d (.i .i64 0)), (.d (.i .i64 0))] [(0, 3, (t 8)), (3, 3, (t 12)), (6, 3, (t 16)), (9, 3, (t 20))]), 16, false, [], (some 0)⟩, ⟨m 4 21, 17, false, [], none⟩])
 .ret)), false⟩
/-- foreman/snap.last -/
def a275 : AFn := ⟨22, [.tmp 4],
 (.seq (.reg [o 4 (.mv (.c .nilsl))])
 (.seq (.dreg 1 [⟨m 5 0, 0, false, [], none⟩, ⟨o 6 (.nilchk (t 5)), 1, false, [], none⟩, ⟨o 7 (.fadd 7 (t 6)), 2, false, [], none⟩, ⟨o 8 (.build [(.d .nilp), (.d (.i .i64 0)), (.d (.i .i64 0))] [(0, 1, (t 7)), (1, 1, (k 0)), (2, 1, (k 40))]), 3, false, [], none⟩, ⟨m 9 0, 4, false, [], none⟩, ⟨o 10 (.nilchk (t 9)), 5, false, [], none⟩, ⟨o 11 (.fadd 8 (t 10)), 6, false, [], none⟩, ⟨o 12 (.build [(.d .nilp), (.d (.i .i64 0)), (.d (.i .i64 0))] [(0, 1, (t 11)), (1, 1, (k 0)), (2, 1, (k 400))]), 7, false, [], none⟩, ⟨m 13 1, 8, false, [], none⟩, ⟨o 14 (.nilchk (t 13)), 9, false, [], none⟩, ⟨o 15 (.fadd 1 (t 14)), 10, false, [], none⟩, ⟨o 16 (.build [(.d .nilp), (.d (.i .i64 0)), (.d (.i .i64 0))] [(0, 1, (t 15)), (1, 1, (k 0)), (2, 1, (k 6))]), 11, false, [], none⟩, ⟨m 17 0, 12, false, [], none⟩, ⟨o 18 (.nilchk (t 17)), 13, false, [], none⟩, ⟨o 19 (.fadd 10 (t 18)), 14, false, [], none⟩, ⟨o 20 (.build [(.d .nilp), (.d (.i .i64 0)), (.d (.i .i64 0))] [(0, 1, (t 19)), (1, 1, (k 0)), (2, 1, (k 10))]), 15, false, [], none⟩, ⟨o 21 (.bsl 357 3 4 [(.d .nilp), (.d (.i .i64 0)), (.d (.i .i64 0))] [(0, 3, (t 8)), (3, 3, (t 12)), (6, 3, (t 16)), (9, 3, (t 20))]), 16, false, [], (some 0)⟩, ⟨m 4 21, 17, false, [], none⟩])
 .ret)), false⟩
/-- slices.Grow[[]byte,byte] -/
def a276 : AFn := ⟨27, [.tmp 4],
 (.seq (.reg [o 4 (.mv (.c .nilsl))])
 (.seq (.seq (.reg [m 5 1, o 6 (b .lss (t 5) (k 0))])
 (.cond (t 6)
 (.reg [o 7 (.mkif 9 (.c (.d (.s [99, 97, 110, 110, 111, 116, 32, 98, 101, 32, 110, 101, 103, 97, 116, 105, 118, 101])))), u (.panic (t 7))])
 .skip))
 (.seq (.seq (.reg [m 8 1, m 9 0, o 10 (.cap (t 9)), m 11 0, o 12 (.len 1 (t 11)), o 13 (b .sub (t 10) (t 12)), o 14 (b .sub (t 8) (t 13)), m 1 14])
 (.seq (.reg [m 15 1, o 16 (b .gtr (t 15) (k 0))])
 (.cond (t 16)
 (.reg [m 17 0, m 18 0, o 19 (.cap (t 18)), o 20 (.slSl 1 (t 17) none (some (t 19)) none), m 21 1, o 22 (.appz 5 1 1 [(.d (.i .u8 0))] (t 20) (t 21)), m 23 0, o 24 (.len 1 (t 23)), o 25 (.slSl 1 (t 22) none (some (t 24)) none), m 0 25])
 .skip)))
 (.seq (.reg [m 26 0, m 4 26])
 .ret)))), false⟩
/-- strings.Trim -/
def a277 : AFn := ⟨43, [.tmp 4],
 (.seq (.reg [o 4 (.mv (.c (.d (.s []))))])
 (.seq (.seq (.reg [m 7 0, o 8 (b .eql (t 7) (.c (.d (.s [])))), m 9 8, mg 10 1 9 false, og 11 (b .eql (t 10) (.c (.d (.s [])))) 9 false, o 12 (.pick (t 9) (.c (.d (.b true))) (t 11))])
 (.cond (t 12)
 (.seq (.reg [m 13 0, m 4 13])
 .ret)
 .skip))
 (.seq (.seq (.reg [m 14 1, o 15 (.len 0 (t 14)), o 16 (b .eql (t 15) (k 1)), m 17 16, mg 18 1 17 true, og 19 (.ixS (t 18) (k 0)) 17 true, og 20 (b .lss (t 19) (.c (.d (.i .u8 128)))) 17 true, o 21 (.pick (t 17) (t 20) (.c (.d (.b false))))])
 (.cond (t 21)
 (.seq (.dreg 0 [⟨m 22 0, 0, false, [], none⟩, ⟨m 23 1, 1, false, [], none⟩, ⟨o 24 (.ixS (t 23) (k 0)), 2, false, [], none⟩, ⟨o 25 (.callf 334 [(t 22), (t 24)]), 3, true, [], none⟩, ⟨m 26 1, 4, false, [], none⟩, ⟨o 27 (.ixS (t 26) (k 0)), 5, false, [], none⟩, ⟨o 28 (.callf 333 [(t 25), (t 27)]), 6, true, [], none⟩, ⟨m 4 28, 7, false, [6, 3], none⟩])
 .ret)
 .skip))
 (.seq (.seq (.reg [m 30 1, o 31 (.callf 335 [(t 30)]), m 29 31, o 32 (.extr (t 29) 0), o 33 (.extr (t 29) 1), o 5 (.alloc 406 [(.d (.b false)), (.d (.b false)), (.d (.b false)), (.d (.b false)), (.d (.b false)), (.d (.b false)), (.d (.b false)), (.d (.b false)), (.d (.b false)), (.d (.b false)), (.d (.b false)), (.d (.b false)), (.d (.b false)), (.d (.b false)), (.d (.b false)), (.d (.b false)), (.d (.b false)), (.d (.b false)), (.d (.b false)), (.d (.b false)), (.d (.b false)), (.d (.b false)), (.d (.b false)), (.d (.b false)), (.d (.b false)), (.d (.b false)), (.d (.b false)), (.d (.b false)), (.d (.b false)), (.d (.b false)), (.d (.b false)), (.d (.b false)), (.d (.b false)), (.d (.b false)), (.d (.b false)), (.d (.b false)), (.d (.b false)), (.d (.b false)), (.d (.b false)), (.d (.b false)), (.d (.b false)), (.d (.b false)), (.d (.b false)), (.d (.b false)), (.d (.b false)), (.d (.b false)), (.d (.b false)), (.d (.b false)), (.d (.b false)), (.d (.b false)), (.d (.b false)), (.d (.b false)), (.d (.b false)), (.d (.b false)), (.d (.b false)), (.d (.b false)), (.d (.b false)), (.d (.b false)), (.d (.b false)), (.d (.b false)), (.d (.b false)), (.d (.b false)), (.d (.b false)), (.d (.b false)), (.d (.b false)), (.d (.b false)), (.d (.b false)), (.d (.b false)), (.d (.b false)), (.d (.b false)), (.d (.b false)), (.d (.b false)), (.d (.b false)), (.d (.b false)), (.d (.b false)), (.d (.b false)), (.d (.b false)), (.d (.b false)), (.d (.b false)), (.d (.b false)), (.d (.b false)), (.d (.b false)), (.d (.b false)), (.d (.b false)), (.d (.b false)), (.d (.b false)), (.d (.b false)), (.d (.b false)), (.d (.b false)), (.d (.b false)), (.d (.b false)), (.d (.b false)), (.d (.b false)), (.d (.b false)), (.d (.b false)), (.d (.b false)), (.d (.b false)), (.d (.b false)), (.d (.b false)), (.d (.b false)), (.d (.b false)), (.d (.b false)), (.d (.b false)), (.d (.b false)), (.d (.b false)), (.d (.b false)), (.d (.b false)), (.d (.b false)), (.d (.b false)), (.d (.b false)), (.d (.b false)), (.d (.b false)), (.d (.b false)), (.d (.b false)), (.d (.b false)), (.d (.b false)), (.d (.b false)), (.d (.b false)), (.d (.b false)), (.d (.b false)), (.d (.b false)), (.d (.b false)), (.d (.b false)), (.d (.b false)), (.d (.b false)), (.d (.b false)), (.d (.b false)), (.d (.b false)), (.d (.b false)), (.d (.b false)), (.d (.b false)), (.d (.b false)), (.d (.b false)), (.d (.b false)), (.d (.b false)), (.d (.b false)), (.d (.b false)), (.d (.b false)), (.d (.b false)), (.d (.b false)), (.d (.b false)), (.d (.b false)), (.d (.b false)), (.d (.b false)), (.d (.b false)), (.d (.b false)), (.d (.b false)), (.d (.b false)), (.d (.b false)), (.d (.b false)), (.d (.b false)), (.d (.b false)), (.d (.b false)), (.d (.b false)), (.d (.b false)), (.d (.b false)), (.d (.b false)), (.d (.b false)), (.d (.b false)), (.d (.b false)), (.d (.b false)), (.d (.b false)), (.d (.b false)), (.d (.b false)), (.d (.b false)), (.d (.b false)), (.d (.b false)), (.d (.b false)), (.d (.b false)), (.d (.b false)), (.d (.b false)), (.d (.b false)), (.d (.b false)), (.d (.b false)), (.d (.b false)), (.d (.b false)), (.d (.b false)), (.d (.b false)), (.d (.b false)), (.d (.b false)), (.d (.b false)), (.d (.b false)), (.d (.b false)), (.d (.b false)), (.d (.b false)), (.d (.b false)), (.d (.b false)), (.d (.b false)), (.d (.b false)), (.d (.b false)), (.d (.b false)), (.d (.b false)), (.d (.b false)), (.d (.b false)), (.d (.b false)), (.d (.b false)), (.d (.b false)), (.d (.b false)), (.d (.b false)), (.d (.b false)), (.d (.b false)), (.d (.b false)), (.d (.b false)), (.d (.b false)), (.d (.b false)), (.d (.b false)), (.d (.b false)), (.d (.b false)), (.d (.b false)), (.d (.b false)), (.d (.b false)), (.d (.b false)), (.d (.b false)), (.d (.b false)), (.d (.b false)), (.d (.b false)), (.d (.b false)), (.d (.b false)), (.d (.b false)), (.d (.b false)), (.d (.b false)), (.d (.b false)), (.d (.b false)), (.d (.b false)), (.d (.b false)), (.d (.b false)), (.d (.b false)), (.d (.b false)), (.d (.b false)), (.d (.b false)), (.d (.b false)), (.d (.b false)), (.d (.b false)), (.d (.b false)), (.d (.b false)), (.d (.b false)), (.d (.b false)), (.d (.b false)), (.d (.b false)), (.d (.b false)), (.d (.b false)), (.d (.b false)), (.d (.b false)), (.d (.b false)), (.d (.b false)), (.d (.b false)), (.d (.b false)), (.d (.b false)), (.d (.b false)), (.d (.b false)), (.d (.b false)), (.d (.b false)), (.d (.b false)), (.d (.b false)), (.d (.b false)), (.d (.b false))]), u (.store 256 (t 5) (t 32)), m 6 33])
 (.seq (.reg [m 34 6])
 (.cond (t 34)
 (.seq (.reg [m 35 0, o 36 (.callf 337 [(t 35), (t 5)]), o 37 (.callf 336 [(t 36), (t 5)]), m 4 37])
 .ret)
 .skip)))
 (.seq (.reg [m 38 0, m 39 1, o 40 (.callf 339 [(t 38), (t 39)]), m 41 1, o 42 (.callf 338 [(t 40), (t 41)]), m 4 42])
 .ret))))), false⟩
/-- slices.IndexFunc[[]string,string] -/
def a278 : AFn := ⟨19, [.tmp 4],
 (.seq (.reg [o 4 (.mv (k 0))])
 (.seq (.seq (.reg [m 6 0, o 7 (.len 1 (t 6)), o 8 (.mv (k 0))])
 (.blk 0 (.loop (.seq (.reg [o 9 (b .lss (t 8) (t 7))])
 (.seq (.cond (t 9)
 .skip
 (.exit 0))
 (.seq (.blk 1 (.seq (.reg [m 10 8, m 5 10])
 (.seq (.reg [m 11 1, m 12 0, m 13 5, o 14 (.iaS 1 (t 12) (t 13)), l 15 14, o 16 (.callv (t 11) [(t 15)])])
 (.cond (t 16)
 (.seq (.reg [m 17 5, m 4 17])
 .ret)
 .skip))))
 (.reg [o 18 (b .add (t 8) (k 1)), m 8 18])))))))
 (.seq (.reg [o 4 (.mv (k (-1)))])
 .ret))), false⟩
/-- strings.indexFunc -/
def a279 : AFn := ⟨21, [.tmp 6],
 (.seq (.reg [o 6 (.mv (k 0))])
 (.seq (.seq (.reg [m 9 0, o 10 (.rng true (t 9))])
 (.blk 0 (.loop (.seq (.reg [o 11 (.nxt true (t 10)), o 12 (.extr (t 11) 0)])
 (.seq (.cond (t 12)
 .skip
 (.exit 0))
 (.blk 1 (.seq (.reg [o 13 (.extr (t 11) 1), o 14 (.extr (t 11) 2), m 7 13, m 8 14])
 (.seq (.reg [m 15 1, m 16 8, o 17 (.callv (t 15) [(t 16)]), m 18 2, o 19 (.bin .eql .bool (t 17) (t 18))])
 (.cond (t 19)
 (.seq (.reg [m 20 7, m 6 20])
 .ret)
 .skip)))))))))
 (.seq (.reg [o 6 (.mv (k (-1)))])
 .ret))), false⟩
/-- slices.IndexFunc[[]foreman/api.Value,foreman/api.Value] -/
def a280 : AFn := ⟨19, [.tmp 4],
 (.seq (.reg [o 4 (.mv (k 0))])
 (.seq (.seq (.reg [m 6 0, o 7 (.len 1 (t 6)), o 8 (.mv (k 0))])
 (.blk 0 (.loop (.seq (.reg [o 9 (b .lss (t 8) (t 7))])
 (.seq (.cond (t 9)
 .skip
 (.exit 0))
 (.seq (.blk 1 (.seq (.reg [m 10 8, m 5 10])
 (.seq (.reg [m 11 1, m 12 0, m 13 5, o 14 (.iaS 4 (t 12) (t 13)), o 15 (.load true 4 (t 14)), o 16 (.callv (t 11) [(t 15)])])
 (.cond (t 16)
 (.seq (.reg [m 17 5, m 4 17])
 .ret)
 .skip))))
 (.reg [o 18 (b .add (t 8) (k 1)), m 8 18])))))))
 (.seq (.reg [o 4 (.mv (k (-1)))])
 .ret))), false⟩
/-- (foreman/check.asked).all$1 -/
def a281 : AFn := ⟨6, [.tmp 1],
 (.seq (.reg [o 1 (.mv (.c (.d (.b false))))])
 (.seq (.reg [o 2 (.fadd 8 (t 0)), l 3 2, o 4 (.callf 86 [(t 3)]), o 5 (.un .not (t 4)), m 1 5])
 .ret)), false⟩
/-- (foreman/check.asked).wide -/
def a282 : AFn := ⟨15, [.tmp 2],
 (.seq (.reg [o 1 (.box 294 (t 0)), o 2 (.mv (.c (.d (.b false))))])
 (.seq (.reg [o 3 (.fadd 8 (t 1)), l 4 3, o 5 (.len 1 (t 4)), o 6 (.fadd 0 (t 1)), o 7 (.fadd 2 (t 6)), l 8 7, o 9 (b .gtr (t 5) (t 8)), m 10 9, og 11 (.load true 9 (t 1)) 10 false, og 12 (.mkfn (.func 341) [] [(t 1)]) 10 false, og 13 (.callf 340 [(t 11), (t 12)]) 10 false, o 14 (.pick (t 10) (.c (.d (.b true))) (t 13)), m 2 14])
 .ret)), false⟩
/-- (foreman/check.asked).twice -/
def a283 : AFn := ⟨8, [.tmp 2],
 (.seq (.reg [o 1 (.box 294 (t 0)), o 2 (.mv (.c (.d (.b false))))])
 (.seq (.reg [o 4 .mkmap, o 3 (.alloc 332 [(.d .nilm)]), u (.store 1 (t 3) (t 4))])
 (.seq (.reg [o 5 (.load true 9 (t 1)), o 6 (.mkfn (.func 343) [] [(t 3)]), o 7 (.callf 340 [(t 5), (t 6)]), m 2 7])
 .ret))), false⟩
/-- (foreman/check.asked).deep -/
def a284 : AFn := ⟨32, [.tmp 2],
 (.seq (.reg [o 1 (.box 294 (t 0)), o 2 (.mv (.c (.d (.b false))))])
 (.seq (.reg [o 4 (.fadd 5 (t 1)), l 5 4, o 6 (.fadd 6 (t 1)), l 7 6, o 8 (.callf 252 [(t 5), (t 7)]), o 9 (b .add (t 8) (k 1)), m 3 9])
 (.seq (.reg [o 10 (.fadd 8 (t 1)), l 11 10, o 12 (.len 1 (t 11)), o 13 (b .gtr (t 12) (k 0)), m 14 13, mg 15 3 14 true, og 16 (.fadd 0 (t 1)) 14 true, og 17 (.fadd 1 (t 16)) 14 true, lg 18 17 14 true, og 19 (b .gtr (t 15) (t 18)) 14 true, o 20 (.pick (t 14) (t 19) (.c (.d (.b false)))), m 21 20, og 22 (.load true 9 (t 1)) 21 false, og 23 (.callf 340 [(t 22), (.c (.d (.fn (.func 342) [] [])))]) 21 false, mg 24 23 21 false, mg 25 3 24 true, og 26 (.fadd 0 (t 1)) 24 true, og 27 (.fadd 1 (t 26)) 24 true, lg 28 27 24 true, og 29 (b .geq (t 25) (t 28)) 24 true, og 30 (.pick (t 24) (t 29) (.c (.d (.b false)))) 21 false, o 31 (.pick (t 21) (.c (.d (.b true))) (t 30)), m 2 31])
 .ret))), false⟩
/-- (foreman/check.asked).refers -/
def a285 : AFn := ⟨6, [.tmp 2],
 (.seq (.reg [o 1 (.box 294 (t 0)), o 2 (.mv (.c (.d (.b false))))])
 (.seq (.reg [o 3 (.load true 9 (t 1)), o 4 (.mkfn (.func 344) [] [(t 1)]), o 5 (.callf 340 [(t 3), (t 4)]), m 2 5])
 .ret)), false⟩
/-- (foreman/check.asked).all$2 -/
def a286 : AFn := ⟨8, [.tmp 1],
 (.seq (.reg [o 1 (.mv (.c (.d (.b false))))])
 (.seq (.dreg 0 [⟨o 2 (.fadd 8 (t 0)), 0, false, [], none⟩, ⟨l 3 2, 1, false, [], none⟩, ⟨o 4 (.callf 287 [(t 3)]), 2, true, [], none⟩, ⟨o 5 (.fadd 7 (t 0)), 3, false, [], none⟩, ⟨l 6 5, 4, false, [], none⟩, ⟨o 7 (b .gtr (t 4) (t 6)), 5, false, [2], none⟩, ⟨m 1 7, 6, false, [2], none⟩])
 .ret)), false⟩
/-- foreman/check.Total -/
def a287 : AFn := ⟨18, [.tmp 2],
 (.seq (.reg [o 2 (.mv (k 0))])
 (.seq (.reg [o 3 (.mv (k 0))])
 (.seq (.seq (.reg [m 6 0, o 7 (.len 1 (t 6)), o 8 (.mv (k 0))])
 (.blk 0 (.loop (.seq (.reg [o 9 (b .lss (t 8) (t 7))])
 (.seq (.cond (t 9)
 .skip
 (.exit 0))
 (.seq (.blk 1 (.seq (.reg [o 10 (.iaS 6 (t 6) (t 8)), o 11 (.load true 6 (t 10)), o 5 (.alloc 78 [(.d (.s [])), (.d (.i .u8 0)), .nilsl, (.d (.s [])), (.d (.i .i64 0)), (.d (.i .i64 0))]), u (.store 6 (t 5) (t 11))])
 (.reg [m 12 3, o 13 (.load true 6 (t 5)), o 14 (.callf 346 [(t 13)]), o 15 (b .add (t 12) (t 14)), m 3 15])))
 (.reg [o 16 (b .add (t 8) (k 1)), m 8 16])))))))
 (.seq (.reg [m 17 3, m 2 17])
 .ret)))), false⟩
/-- (foreman/check.asked).over -/
def a288 : AFn := ⟨6, [.tmp 2],
 (.seq (.reg [o 1 (.box 294 (t 0)), o 2 (.mv (.c (.d (.b false))))])
 (.seq (.reg [o 3 (.load true 9 (t 1)), o 4 (.mkfn (.func 347) [] [(t 1)]), o 5 (.callf 340 [(t 3), (t 4)]), m 2 5])
 .ret)), false⟩
/-- (foreman/check.asked).all$3 -/
def a289 : AFn := ⟨19, [],
 (.seq (.reg [l 5 1, o 6 (.len 1 (t 5)), o 7 (.mv (k 0))])
 (.blk 0 (.loop (.seq (.reg [o 8 (b .lss (t 7) (t 6))])
 (.seq (.cond (t 8)
 .skip
 (.exit 0))
 (.seq (.blk 1 (.seq (.reg [o 9 (.iaS 2 (t 5) (t 7)), o 10 (.load true 2 (t 9)), o 4 (.alloc 368 [(.d (.i .i64 0)), (.d .nilf)]), u (.store 2 (t 4) (t 10))])
 (.seq (.reg [m 11 0, o 12 (.fadd 0 (t 4)), l 13 12, o 14 (.fadd 1 (t 4)), l 15 14, o 16 (.callv (t 11) [(t 13), (t 15)]), o 17 (.un .not (t 16))])
 (.cond (t 17)
 .ret
 .skip))))
 (.reg [o 18 (b .add (t 7) (k 1)), m 7 18]))))))), false⟩
/-- foreman/ident.Show -/
def a291 : AFn := ⟨35, [.tmp 2],
 (.seq (.reg [o 1 (.box 173 (t 0)), o 2 (.mv (.c (.d (.s []))))])
 (.seq (.seq (.reg [o 6 (.load true 2 (t 1)), o 7 (.callf 350 [(t 6)]), o 8 (.un .not (t 7))])
 (.cond (t 8)
 (.seq (.reg [o 2 (.mv (.c (.d (.s []))))])
 .ret)
 .skip))
 (.seq (.reg [o 3 (.alloc 417 [(.d .nilp), .nilsl])])
 (.seq (.reg [o 9 (.fadd 0 (t 1)), l 10 9, o 11 (.callf 226 [(t 10)]), o 12 (.callf 351 [(t 3), (t 11)])])
 (.seq (.seq (.reg [o 13 (.fadd 1 (t 1)), l 14 13, o 15 (.len 1 (t 14)), o 16 (.mv (k 0))])
 (.blk 0 (.loop (.seq (.reg [o 17 (b .lss (t 16) (t 15))])
 (.seq (.cond (t 17)
 .skip
 (.exit 0))
 (.seq (.blk 1 (.seq (.reg [o 18 (.iaS 2 (t 14) (t 16)), o 19 (.load true 2 (t 18)), o 5 (.alloc 246 [(.d (.s [])), (.d (.i .i64 0))]), u (.store 2 (t 5) (t 19))])
 (.seq (.reg [o 20 (.fadd 0 (t 5)), l 21 20, o 22 (b .add (.c (.d (.s [47]))) (t 21)), o 23 (.callf 351 [(t 3), (t 22)])])
 (.seq (.reg [o 24 (.fadd 1 (t 5)), l 25 24, o 26 (b .neq (t 25) (k (-1)))])
 (.cond (t 26)
 (.reg [o 27 (.fadd 1 (t 5)), l 28 27, o 29 (.callf 226 [(t 28)]), o 30 (b .add (.c (.d (.s [91]))) (t 29)), o 31 (b .add (t 30) (.c (.d (.s [93])))), o 32 (.callf 351 [(t 3), (t 31)])])
 .skip)))))
 (.reg [o 33 (b .add (t 16) (k 1)), m 16 33])))))))
 (.seq (.reg [o 34 (.callf 352 [(t 3)]), m 2 34])
 .ret)))))), false⟩
/-- foreman/ident.id -/
def a292 : AFn := ⟨10, [.tmp 2],
 (.seq (.reg [o 1 (.box 173 (t 0)), o 2 (.mv (.c (.d (.s []))))])
 (.seq (.reg [o 4 (.load true 2 (t 1)), o 5 (.callf 291 [(t 4)]), m 3 5])
 (.seq (.seq (.reg [m 6 3, o 7 (.len 0 (t 6)), o 8 (b .gtr (t 7) (k 400))])
 (.cond (t 8)
 (.seq (.reg [o 2 (.mv (.c (.d (.s []))))])
 .ret)
 .skip))
 (.seq (.reg [m 9 3, m 2 9])
 .ret)))), false⟩
end
end Go.Proofs.YtaadeimkgmccaaaGreatDoor
