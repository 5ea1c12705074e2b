/- The program's functions as the abstract machine's code: what it is compiled to, by program; that it is the compiler's is shown in the text on the environment. -/
import Derived.Test.YtfbjkckdmigaoaaGreatDoorZA
namespace Go.Proofs.YtfbjkckdmigaoaaGreatDoor
noncomputable section
open Go Go.Abs Go.Abs.T
def y1 : List AV := [(.d (.s [])),(.d (.s [])),(.d (.i .u8 0)),(.d (.i .i64 0)),(.d (.i .i64 0)),(.d (.i .i64 0)),.nilsl,(.d (.i .i64 0)),(.d (.i .i64 0)),(.d (.i .u8 0)),(.d (.i .i64 0)),(.d (.i .i64 0)),(.d (.i .u8 0)),(.d (.i .i64 0)),(.d (.s [])),.nilsl]
def y2 : List AV := [(.d (.i .i64 0)),(.d (.i .i64 0)),(.d (.i .i64 0)),(.d (.i .i64 0)),(.d (.i .i64 0)),(.d (.i .i64 0)),.nilsl,(.d (.i .i64 0))]
def y3 : List AV := [(.d (.i .u8 0)),(.d (.i .i64 0)),(.d (.s [])),.nilsl]
def y4 : List AV := [(.d (.s [])),(.d (.i .u8 0)),.nilsl,(.d (.s [])),(.d (.i .i64 0)),(.d (.i .i64 0))]
def y5 : List AV := [(.d (.i .u8 0)),(.d (.s [])),(.d (.i .i64 0)),(.d (.i .u8 0)),(.d (.i .i64 0)),(.d (.s [])),.nilsl,.nilsl,(.d (.i .i64 0))]
def y6 : List AV := [(.d (.i .i64 0)),(.d (.i .i64 0))]
def y7 : List AV := [(.d (.i .i64 0)),(.d (.i .i64 0)),(.d (.i .i64 0)),.nilsl,(.d (.i .u8 0))]
def y8 : List AV := [(.d (.i .i64 0)),(.d (.i .i64 0)),(.d (.i .i64 0)),(.d (.i .i64 0)),(.d (.i .i64 0)),.nilsl,(.d (.i .i64 0)),(.d (.i .i64 0)),.nilsl]
def y9 : List AV := [(.d (.i .i64 0)),.nilsl]
def y10 : List AV := [(.d (.s [])),(.d (.i .i64 0))]
def y11 : List AV := [(.d (.i .i64 0)),(.d (.i .i64 0)),(.d (.i .i64 0)),(.d (.s []))]
def y12 : List AV := [.nilsl,.nilsl]
def a295 : AFn := ⟨40,[.tmp 2],
 (.seq (.reg [o 2 (.mv (.c (.d .nilp)))])
 (.seq (.seq (.reg [m 6 0,o 7 (.callf 370 [(t 6)])])
 (.cond (t 7)
 (.seq (.reg [o 2 (.mv (.c (.d .nilp)))])
 .ret)
 .skip))
 (.seq (.reg [m 8 0,o 9 (.nilchk (t 8)),o 10 (.fadd 1 (t 9)),l 11 10,o 12 (.clone 371 436 2 48 true (t 11)),o 13 (.build [(.d (.b false)),.nilsl] [(0,1,(.c (.d (.b true)))),(1,1,(t 12))]),o 14 (.box 438 (t 13)),m 3 14])
 (.seq (.seq (.reg [m 15 3,o 16 (.nilchk (t 15)),o 17 (.fadd 1 (t 16)),l 18 17,o 19 (.len 1 (t 18)),o 20 (.mv (k 0))])
 (.blk 0 (.loop (.seq (.reg [o 21 (b .lss (t 20) (t 19))])
 (.seq (.cond (t 21)
 .skip
 (.exit 0))
 (.seq (.blk 1 (.seq (.reg [m 22 20,o 23 (.iaS 2 (t 18) (t 20)),o 24 (.load true 2 (t 23)),o 5 (.alloc 436 y12),m 4 22,u (.store 2 (t 5) (t 24))])
 (.dreg 0 [⟨o 30 (.fadd 0 (t 5)),5,false,[],none⟩,⟨l 31 30,6,false,[],none⟩,⟨o 32 (.clone 167 3 1 8 true (t 31)),7,true,[],none⟩,⟨o 33 (.fadd 1 (t 5)),8,false,[],none⟩,⟨l 34 33,9,false,[],none⟩,⟨o 35 (.clone 167 3 1 8 true (t 34)),10,true,[],none⟩,⟨m 25 3,0,false,[],none⟩,⟨o 26 (.nilchk (t 25)),1,false,[],none⟩,⟨o 27 (.fadd 1 (t 26)),2,false,[],none⟩,⟨l 28 27,3,false,[],none⟩,⟨m 29 4,4,false,[],none⟩,⟨o 36 (.build y12 [(0,1,(t 32)),(1,1,(t 35))]),11,false,[10,7],none⟩,⟨o 37 (.iaS 2 (t 28) (t 29)),12,false,[10,7],none⟩,⟨u (.store 2 (t 37) (t 36)),13,true,[],none⟩])))
 (.reg [o 38 (b .add (t 20) (k 1)),m 20 38])))))))
 (.seq (.reg [m 39 3,m 2 39])
 .ret))))),true⟩
def a296 : AFn := ⟨9,[.tmp 2],
 (.seq (.reg [o 2 (.mv (.c (.d (.i .u8 0))))])
 (.seq (.seq (.reg [m 3 0,o 4 (.cvi .i64 (t 3)),o 5 (b .geq (t 4) (k 6))])
 (.cond (t 5)
 (.seq (.reg [o 2 (.mv (.c (.d (.i .u8 0))))])
 .ret)
 .skip))
 (.seq (.reg [m 6 0,o 7 (.iaA 6 1 (.c (.glob 8 0)) (t 6)),l 8 7,m 2 8])
 .ret))),false⟩
def a297 : AFn := ⟨10,[.tmp 6],
 (.seq (.reg [o 6 (.mv (.c (.d (.b false))))])
 (.seq (.seq (.reg [m 7 0])
 (.cond (t 7)
 (.seq (.reg [m 8 1,m 6 8])
 .ret)
 .skip))
 (.seq (.reg [m 9 2,m 6 9])
 .ret))),false⟩
def a298 : AFn := ⟨18,[.tmp 2],
 (.seq (.reg [o 2 (.mv (.c (.d (.b false))))])
 (.seq (.reg [o 3 (.mv (.c (.d (.fn (.func 372) [] []))))])
 (.seq (.reg [m 4 0,o 5 (.len 0 (t 4)),o 6 (b .geq (t 5) (k 1)),m 7 6,mg 8 0 7 true,og 9 (.len 0 (t 8)) 7 true,og 10 (b .leq (t 9) (k 400)) 7 true,o 11 (.pick (t 7) (t 10) (.c (.d (.b false)))),m 12 11,mg 13 0 12 true,mg 14 3 12 true,og 15 (.callf 373 [(t 13),(t 14)]) 12 true,og 16 (.un .not (t 15)) 12 true,o 17 (.pick (t 12) (t 16) (.c (.d (.b false)))),m 2 17])
 .ret))),false⟩
def a299 : AFn := ⟨31,[.tmp 4],
 (.seq (.reg [o 2 (.box 55 (t 0)),o 3 (.box 55 (t 1)),o 4 (.mv (.c (.d (.b false))))])
 (.seq (.reg [o 5 (.fadd 0 (t 2)),l 6 5,o 7 (.fadd 0 (t 3)),l 8 7,o 9 (b .eql (t 6) (t 8)),m 10 9,og 11 (.fadd 1 (t 2)) 10 true,lg 12 11 10 true,og 13 (.fadd 1 (t 3)) 10 true,lg 14 13 10 true,og 15 (b .eql (t 12) (t 14)) 10 true,o 16 (.pick (t 10) (t 15) (.c (.d (.b false)))),m 17 16,og 18 (.fadd 2 (t 2)) 17 true,lg 19 18 17 true,og 20 (.fadd 2 (t 3)) 17 true,lg 21 20 17 true,og 22 (b .eql (t 19) (t 21)) 17 true,o 23 (.pick (t 17) (t 22) (.c (.d (.b false)))),m 24 23,og 25 (.fadd 3 (t 2)) 24 true,lg 26 25 24 true,og 27 (.fadd 3 (t 3)) 24 true,lg 28 27 24 true,og 29 (.callf 374 [(t 26),(t 28),(.c (.d (.fn (.func 299) [] [])))]) 24 true,o 30 (.pick (t 24) (t 29) (.c (.d (.b false)))),m 4 30])
 .ret)),false⟩
def a300 : AFn := ⟨66,[.cell 10 true 8,.tmp 11],
 (.seq (.reg [o 10 (.alloc 36 y2),o 11 (.mv (k 0))])
 (.seq (.seq (.dreg 0 [⟨m 15 0,0,false,[],none⟩,⟨o 16 (.nilchk (t 15)),1,false,[],none⟩,⟨o 17 (.fadd 0 (t 16)),2,false,[],none⟩,⟨o 18 (.fadd 0 (t 17)),3,false,[],none⟩,⟨o 19 (.load true 5 (t 18)),4,false,[],none⟩,⟨m 20 0,5,false,[],none⟩,⟨o 21 (.nilchk (t 20)),6,false,[],none⟩,⟨o 22 (.fadd 0 (t 21)),7,false,[],none⟩,⟨o 23 (.fadd 6 (t 22)),8,false,[],none⟩,⟨l 24 23,9,false,[],none⟩,⟨m 25 2,10,false,[],none⟩,⟨m 26 3,11,false,[],none⟩,⟨m 27 4,12,false,[],none⟩,⟨o 28 (.callf 375 [(t 19),(t 24),(t 25),(t 26),(t 27)]),13,true,[],none⟩,⟨m 12 28,14,false,[13],none⟩])
 (.seq (.reg [m 29 12,o 30 (b .neq (t 29) (k 0))])
 (.cond (t 30)
 (.seq (.reg [m 31 0,o 32 (.nilchk (t 31)),o 33 (.fadd 0 (t 32)),o 34 (.load true 8 (t 33)),m 35 12,u (.store 8 (t 10) (t 34)),m 11 35])
 .ret)
 .skip)))
 (.seq (.reg [m 37 0,o 38 (.nilchk (t 37)),o 39 (.fadd 0 (t 38)),o 40 (.load true 8 (t 39)),m 41 1,m 42 2,m 43 4,o 44 (.callf 376 [(t 40),(t 41),(t 42),(t 43)]),m 36 44,o 45 (.extr (t 36) 0),o 46 (.extr (t 36) 1),m 13 45,m 14 46])
 (.seq (.seq (.reg [m 47 14,o 48 (b .neq (t 47) (k 0))])
 (.cond (t 48)
 (.seq (.reg [m 49 0,o 50 (.nilchk (t 49)),o 51 (.fadd 0 (t 50)),o 52 (.load true 8 (t 51)),m 53 14,u (.store 8 (t 10) (t 52)),m 11 53])
 .ret)
 .skip))
 (.seq (.dreg 0 [⟨m 54 0,0,false,[],none⟩,⟨o 55 (.nilchk (t 54)),1,false,[],none⟩,⟨o 56 (.fadd 8 (t 55)),2,false,[],none⟩,⟨l 57 56,3,false,[],none⟩,⟨m 58 0,4,false,[],none⟩,⟨o 59 (.nilchk (t 58)),5,false,[],none⟩,⟨o 60 (.fadd 0 (t 59)),6,false,[],none⟩,⟨o 61 (.load true 8 (t 60)),7,false,[],none⟩,⟨m 62 13,8,false,[],none⟩,⟨o 63 (.callf 377 [(t 57),(t 61),(t 62)]),9,true,[],none⟩,⟨o 64 (.extr (t 63) 0),10,false,[9],none⟩,⟨o 65 (.extr (t 63) 1),11,false,[9],none⟩,⟨u (.store 8 (t 10) (t 64)),12,true,[],none⟩,⟨m 11 65,13,false,[12,9],none⟩])
 .ret))))),false⟩
def a301 : AFn := ⟨18,[],
 (.seq (.reg [o 3 (.box 36 (t 1))])
 (.seq (.reg [m 4 0,o 5 (.load true 8 (t 3)),o 6 (.callf 378 [(t 5)]),o 7 (.nilchk (t 4)),o 8 (.fadd 0 (t 7)),u (.store 8 (t 8) (t 6))])
 (.dreg 0 [⟨m 9 0,0,false,[],none⟩,⟨o 10 (.nilchk (t 9)),1,false,[],none⟩,⟨o 11 (.fadd 8 (t 10)),2,false,[],none⟩,⟨l 12 11,3,false,[],none⟩,⟨m 13 0,4,false,[],none⟩,⟨o 14 (.nilchk (t 13)),5,false,[],none⟩,⟨o 15 (.fadd 0 (t 14)),6,false,[],none⟩,⟨o 16 (.load true 8 (t 15)),7,false,[],none⟩,⟨o 17 (.callf 271 [(t 12),(t 16)]),8,true,[],none⟩]))),false⟩
def a302 : AFn := ⟨48,[.tmp 6,.cell 7 true 5],
 (.seq (.reg [o 6 (.mv (k 0)),o 7 (.alloc 103 y7)])
 (.seq (.reg [m 11 0,o 12 (.nilchk (t 11)),o 13 (.fadd 0 (t 12)),o 14 (.load true 8 (t 13)),m 15 1,o 16 (.callf 61 [(t 14),(t 15)]),m 10 16,o 17 (.extr (t 10) 0),o 18 (.extr (t 10) 1),m 8 17,m 9 18])
 (.seq (.blk 0 (.seq (.reg [m 20 9,o 21 (.un .not (t 20)),m 19 21])
 (.cond (t 19)
 (.seq (.reg [o 22 (.callf 235 [(k 10)]),o 6 (.mv (k 0)),u (.store 5 (t 7) (t 22))])
 .ret)
 (.seq (.reg [m 24 0,o 25 (.nilchk (t 24)),o 26 (.fadd 0 (t 25)),o 27 (.fadd 6 (t 26)),l 28 27,m 29 8,o 30 (.iaS 16 (t 28) (t 29)),o 31 (.fadd 9 (t 30)),l 32 31,m 33 2,o 34 (b .neq (t 32) (t 33)),m 23 34])
 (.cond (t 23)
 (.seq (.dreg 0 [⟨m 35 0,0,false,[],none⟩,⟨o 36 (.nilchk (t 35)),1,false,[],none⟩,⟨o 37 (.fadd 0 (t 36)),2,false,[],none⟩,⟨o 38 (.fadd 6 (t 37)),3,false,[],none⟩,⟨l 39 38,4,false,[],none⟩,⟨m 40 8,5,false,[],none⟩,⟨o 41 (.iaS 16 (t 39) (t 40)),6,false,[],none⟩,⟨o 42 (.fadd 9 (t 41)),7,false,[],none⟩,⟨l 43 42,8,false,[],none⟩,⟨o 44 (.build y7 [(0,1,(k 11)),(4,1,(t 43))]),9,false,[],none⟩,⟨o 6 (.mv (k 0)),10,false,[],none⟩,⟨u (.store 5 (t 7) (t 44)),11,true,[],none⟩])
 .ret)
 .skip)))))
 (.seq (.reg [m 45 8,m 46 2,o 47 (.build y7 [(4,1,(t 46))]),m 6 45,u (.store 5 (t 7) (t 47))])
 .ret)))),false⟩
def a303 : AFn := ⟨68,[.tmp 4,.tmp 5],
 (.seq (.reg [o 4 (.mv (.c .nilsl)),o 5 (.mv (.c (.d (.b false))))])
 (.seq (.seq (.reg [m 12 0,m 13 1,o 14 (.callf 379 [(t 12),(t 13)]),o 15 (.un .not (t 14))])
 (.cond (t 15)
 (.seq (.reg [o 4 (.mv (.c .nilsl)),o 5 (.mv (.c (.d (.b false))))])
 .ret)
 .skip))
 (.seq (.reg [m 16 0,m 17 1,o 18 (.iaS 16 (t 16) (t 17)),o 19 (.load true 16 (t 18)),o 6 (.alloc 111 y1),u (.store 16 (t 6) (t 19))])
 (.seq (.reg [o 7 (.mv (.c .nilsl))])
 (.seq (.seq (.reg [o 20 (.fadd 2 (t 6)),l 21 20])
 (.blk 0 (.seq (.reg [o 23 (b .eql (t 21) (.c (.d (.i .u8 2)))),m 22 23])
 (.cond (t 22)
 (.seq (.reg [m 25 0,o 26 (.load true 16 (t 6)),o 27 (.callf 380 [(t 25),(t 26)]),m 24 27,o 28 (.extr (t 24) 0),o 29 (.extr (t 24) 1),o 8 (.alloc 55 y3),u (.store 4 (t 8) (t 28)),m 9 29])
 (.seq (.seq (.reg [m 30 9,o 31 (.un .not (t 30))])
 (.cond (t 31)
 (.seq (.reg [o 4 (.mv (.c .nilsl)),o 5 (.mv (.c (.d (.b false))))])
 .ret)
 .skip))
 (.reg [m 32 7,o 33 (.load true 4 (t 8)),o 34 (.bsl 55 4 1 y3 [(0,4,(t 33))]),o 35 (.app 55 4 56 false (t 32) (t 34)),m 7 35])))
 (.seq (.reg [o 37 (b .eql (t 21) (.c (.d (.i .u8 0)))),m 36 37])
 (.cond (t 36)
 .skip
 (.seq (.reg [o 4 (.mv (.c .nilsl)),o 5 (.mv (.c (.d (.b false))))])
 .ret)))))))
 (.seq (.seq (.reg [o 38 (.fadd 6 (t 6)),l 39 38,o 40 (.len 1 (t 39)),o 41 (.mv (k 0))])
 (.blk 1 (.loop (.seq (.reg [o 42 (b .lss (t 41) (t 40))])
 (.seq (.cond (t 42)
 .skip
 (.exit 1))
 (.seq (.blk 2 (.seq (.reg [o 43 (.iaS 1 (t 39) (t 41)),l 44 43,m 11 44])
 (.seq (.seq (.reg [m 45 0,m 46 11,o 47 (.callf 379 [(t 45),(t 46)]),o 48 (.un .not (t 47)),m 49 48,mg 50 0 49 false,mg 51 11 49 false,og 52 (.iaS 16 (t 50) (t 51)) 49 false,og 53 (.fadd 9 (t 52)) 49 false,lg 54 53 49 false,og 55 (b .neq (t 54) (.c (.d (.i .u8 4)))) 49 false,o 56 (.pick (t 49) (.c (.d (.b true))) (t 55))])
 (.cond (t 56)
 (.seq (.reg [o 4 (.mv (.c .nilsl)),o 5 (.mv (.c (.d (.b false))))])
 .ret)
 .skip))
 (.reg [m 57 7,m 58 0,m 59 11,o 60 (.iaS 16 (t 58) (t 59)),o 61 (.fadd 12 (t 60)),o 62 (.load true 4 (t 61)),o 63 (.callf 168 [(t 62)]),o 64 (.bsl 55 4 1 y3 [(0,4,(t 63))]),o 65 (.app 55 4 56 false (t 57) (t 64)),m 7 65]))))
 (.reg [o 66 (b .add (t 41) (k 1)),m 41 66])))))))
 (.seq (.reg [m 67 7,m 4 67,o 5 (.mv (.c (.d (.b true))))])
 .ret))))))),false⟩
def a304 : AFn := ⟨35,[.tmp 4,.cell 5 true 5],
 (.seq (.reg [o 3 (.box 58 (t 1)),o 4 (.mv (k 0)),o 5 (.alloc 103 y7)])
 (.seq (.reg [m 9 0,o 10 (.fadd 1 (t 3)),l 11 10,o 12 (.callf 302 [(t 9),(t 11),(.c (.d (.i .u8 2)))]),m 8 12,o 13 (.extr (t 8) 0),o 14 (.extr (t 8) 1),o 7 (.alloc 103 y7),m 6 13,u (.store 5 (t 7) (t 14))])
 (.seq (.seq (.dreg 0 [⟨o 15 (.fadd 0 (t 7)),0,false,[],none⟩,⟨l 16 15,1,false,[],none⟩,⟨o 17 (b .eql (t 16) (k 0)),2,false,[],none⟩,⟨m 18 17,3,false,[],none⟩,⟨mg 19 0 18 true,4,false,[],none⟩,⟨og 20 (.nilchk (t 19)) 18 true,5,false,[],none⟩,⟨og 21 (.fadd 0 (t 20)) 18 true,6,false,[],none⟩,⟨og 22 (.fadd 6 (t 21)) 18 true,7,false,[],none⟩,⟨lg 23 22 18 true,8,false,[],none⟩,⟨mg 24 6 18 true,9,false,[],none⟩,⟨og 25 (.iaS 16 (t 23) (t 24)) 18 true,10,false,[],none⟩,⟨og 26 (.fadd 11 (t 25)) 18 true,11,false,[],none⟩,⟨lg 27 26 18 true,12,false,[],none⟩,⟨og 28 (.fadd 2 (t 3)) 18 true,13,false,[],none⟩,⟨lg 29 28 18 true,14,false,[],none⟩,⟨og 30 (b .neq (t 27) (t 29)) 18 true,15,false,[],none⟩,⟨o 31 (.pick (t 18) (t 30) (.c (.d (.b false)))),16,false,[],none⟩])
 (.cond (t 31)
 (.reg [o 32 (.fadd 0 (t 7)),u (.store 1 (t 32) (k 12))])
 .skip))
 (.seq (.dreg 0 [⟨m 33 6,0,false,[],none⟩,⟨o 34 (.load true 5 (t 7)),1,false,[],none⟩,⟨m 4 33,2,false,[],none⟩,⟨u (.store 5 (t 5) (t 34)),3,true,[],none⟩])
 .ret)))),false⟩
def a305 : AFn := ⟨44,[.tmp 6],
 (.seq (.reg [o 5 (.box 55 (t 2)),o 6 (.mv (k 0))])
 (.seq (.seq (.reg [m 10 0,o 11 (.nilchk (t 10)),o 12 (.fadd 0 (t 11)),o 13 (.fadd 6 (t 12)),l 14 13,o 15 (.len 1 (t 14)),o 16 (.mv (k 0))])
 (.blk 0 (.loop (.seq (.reg [o 17 (b .lss (t 16) (t 15))])
 (.seq (.cond (t 17)
 .skip
 (.exit 0))
 (.seq (.blk 1 (.seq (.reg [o 18 (.iaS 16 (t 14) (t 16)),o 19 (.load true 16 (t 18)),o 8 (.alloc 111 y1),u (.store 16 (t 8) (t 19))])
 (.seq (.seq (.reg [o 20 (.fadd 2 (t 8)),l 21 20,o 22 (b .neq (t 21) (.c (.d (.i .u8 1)))),m 23 22,og 24 (.fadd 9 (t 8)) 23 false,lg 25 24 23 false,og 26 (b .neq (t 25) (.c (.d (.i .u8 0)))) 23 false,o 27 (.pick (t 23) (.c (.d (.b true))) (t 26)),m 28 27,og 29 (.fadd 6 (t 8)) 28 false,lg 30 29 28 false,og 31 (.iaS 1 (t 30) (k 0)) 28 false,lg 32 31 28 false,mg 33 1 28 false,og 34 (b .neq (t 32) (t 33)) 28 false,o 35 (.pick (t 28) (.c (.d (.b true))) (t 34))])
 (.cond (t 35)
 (.exit 1)
 .skip))
 (.seq (.reg [o 36 (.load true 4 (t 5)),o 37 (.fadd 7 (t 8)),l 38 37,o 39 (.callf 381 [(t 36),(t 38)]),m 9 39])
 (.seq (.reg [m 40 9,o 41 (b .neq (t 40) (k 0))])
 (.cond (t 41)
 (.seq (.reg [m 42 9,m 6 42])
 .ret)
 .skip))))))
 (.reg [o 43 (b .add (t 16) (k 1)),m 16 43])))))))
 (.seq (.reg [o 6 (.mv (k 0))])
 .ret))),false⟩
def a307 : AFn := ⟨39,[.cell 2 true 2,.cell 3 false 1],
 (.seq (.reg [o 2 (.alloc 382 y9),o 3 (.alloc 4 [(.d (.b false))])])
 (.seq (.reg [o 4 (.alloc 382 y9)])
 (.seq (.reg [o 5 (.alloc 4 [(.d (.b false))]),u (.store 1 (t 5) (.c (.d (.b true))))])
 (.seq (.seq (.reg [m 9 0,o 10 (.callf 15 [(t 9),(.c (.d (.s [47])))])])
 (.blk 0 (.rfun (t 10) [11] (.reg [m 6 11]) (.blk 1 (.seq (.seq (.reg [l 12 5])
 (.cond (t 12)
 (.seq (.reg [u (.store 1 (t 5) (.c (.d (.b false))))])
 (.seq (.seq (.reg [m 13 6,o 14 (.callf 383 [(t 13)]),o 15 (.fadd 0 (t 4)),u (.store 1 (t 15) (t 14))])
 (.seq (.reg [o 16 (.fadd 0 (t 4)),l 17 16,o 18 (b .eql (t 17) (k (-1)))])
 (.cond (t 18)
 (.seq (.reg [o 19 (.build y9 []),u (.store 2 (t 2) (t 19)),u (.store 1 (t 3) (.c (.d (.b false))))])
 .ret)
 .skip)))
 (.exit 1)))
 .skip))
 (.seq (.reg [m 21 6,o 22 (.callf 384 [(t 21)]),m 20 22,o 23 (.extr (t 20) 0),o 24 (.extr (t 20) 1),o 7 (.alloc 451 y10),u (.store 2 (t 7) (t 23)),m 8 24])
 (.seq (.seq (.reg [m 25 8,o 26 (.un .not (t 25))])
 (.cond (t 26)
 (.seq (.reg [o 27 (.build y9 []),u (.store 2 (t 2) (t 27)),u (.store 1 (t 3) (.c (.d (.b false))))])
 .ret)
 .skip))
 (.reg [o 28 (.fadd 1 (t 4)),l 29 28,o 30 (.load true 2 (t 7)),o 31 (.bsl 451 2 1 y10 [(0,2,(t 30))]),o 32 (.app 451 2 24 false (t 29) (t 31)),o 33 (.fadd 1 (t 4)),u (.store 1 (t 33) (t 32))]))))))))
 (.seq (.seq (.reg [m 34 0,o 35 (.len 0 (t 34)),o 36 (b .gtr (t 35) (k 400))])
 (.cond (t 36)
 (.seq (.reg [o 37 (.build y9 []),u (.store 2 (t 2) (t 37)),u (.store 1 (t 3) (.c (.d (.b false))))])
 .ret)
 .skip))
 (.seq (.reg [o 38 (.load true 2 (t 4)),u (.store 2 (t 2) (t 38)),u (.store 1 (t 3) (.c (.d (.b true))))])
 .ret)))))),false⟩
def a311 : AFn := ⟨11,[.tmp 2],
 (.seq (.reg [o 2 (.mv (k 0))])
 (.seq (.seq (.reg [m 3 0,o 4 (b .lss (t 3) (k 0)),m 5 4,mg 6 0 5 false,og 7 (b .gtr (t 6) (k 4096)) 5 false,o 8 (.pick (t 5) (.c (.d (.b true))) (t 7))])
 (.cond (t 8)
 (.seq (.reg [o 2 (.mv (k 0))])
 .ret)
 .skip))
 (.seq (.reg [m 9 0,o 10 (b .add (k 9) (t 9)),m 2 10])
 .ret))),false⟩
def a312 : AFn := ⟨25,[],
 (.seq (.seq (.reg [l 5 1,l 6 2,o 7 (.callf 246 [(t 5),(t 6)]),o 8 (.un .not (t 7))])
 (.cond (t 8)
 .ret
 .skip))
 (.seq (.reg [l 9 1,l 10 2,o 11 (.iaS 16 (t 9) (t 10)),o 12 (.fadd 4 (t 11)),l 13 12,m 4 13])
 (.blk 0 (.loop (.seq (.seq (.reg [m 14 4,o 15 (b .geq (t 14) (k 0))])
 (.cond (t 15)
 .skip
 (.exit 0)))
 (.seq (.blk 1 (.seq (.reg [m 21 0,m 22 4,o 23 (.callv (t 21) [(t 22)]),o 24 (.un .not (t 23))])
 (.cond (t 24)
 .ret
 .skip)))
 (.reg [l 16 1,m 17 4,o 18 (.iaS 16 (t 16) (t 17)),o 19 (.fadd 4 (t 18)),l 20 19,m 4 20]))))))),false⟩
def a313 : AFn := ⟨5,[.tmp 2],
 (.seq (.reg [o 2 (.mv (.c .nilsl))])
 (.seq (.reg [m 3 0,o 4 (.callf 367 [(t 3)]),m 2 4])
 .ret)),false⟩
def a314 : AFn := ⟨27,[.cell 2 true 9,.tmp 3],
 (.seq (.reg [o 2 (.alloc 58 y5),o 3 (.mv (k 0))])
 (.seq (.reg [m 8 0,o 9 (.callf 388 [(t 8)]),m 7 9,o 10 (.extr (t 7) 0),o 11 (.extr (t 7) 1),o 12 (.extr (t 7) 2),o 4 (.alloc 58 y5),u (.store 9 (t 4) (t 10)),m 5 11,m 6 12])
 (.seq (.seq (.reg [m 13 6,o 14 (b .neq (t 13) (k 0)),m 15 14,mg 16 5 15 false,og 17 (.len 1 (t 16)) 15 false,og 18 (b .gtr (t 17) (k 0)) 15 false,o 19 (.pick (t 15) (.c (.d (.b true))) (t 18)),m 20 19,og 21 (.load true 9 (t 4)) 20 false,og 22 (.callf 236 [(t 21)]) 20 false,og 23 (.un .not (t 22)) 20 false,o 24 (.pick (t 20) (.c (.d (.b true))) (t 23))])
 (.cond (t 24)
 (.seq (.reg [o 25 (.build y5 []),u (.store 9 (t 2) (t 25)),o 3 (.mv (k 30))])
 .ret)
 .skip))
 (.seq (.reg [o 26 (.load true 9 (t 4)),u (.store 9 (t 2) (t 26)),o 3 (.mv (k 0))])
 .ret)))),false⟩
def a315 : AFn := ⟨52,[.cell 2 true 8,.tmp 3],
 (.seq (.reg [o 2 (.alloc 36 y2),o 3 (.mv (k 0))])
 (.seq (.reg [m 8 0,o 9 (.build [.nilsl,(.d (.b false))] [(0,1,(t 8))]),o 10 (.box 460 (t 9)),m 4 10])
 (.seq (.reg [o 5 (.alloc 36 y2)])
 (.seq (.reg [m 11 4,o 12 (.callf 321 [(t 5)]),o 13 (.callf 389 [(t 11),(t 12)])])
 (.seq (.reg [m 14 4,o 15 (.callf 390 [(t 14),(k 0),(k 9223372036854775807)]),o 16 (.fadd 7 (t 5)),u (.store 1 (t 16) (t 15))])
 (.seq (.reg [m 17 4,o 18 (.callf 390 [(t 17),(k 0),(k 4800)]),m 6 18])
 (.seq (.seq (.reg [o 7 (.mv (k 0))])
 (.blk 0 (.loop (.seq (.seq (.reg [m 19 7,m 20 6,o 21 (b .lss (t 19) (t 20)),m 22 21,mg 23 4 22 true,og 24 (.nilchk (t 23)) 22 true,og 25 (.fadd 1 (t 24)) 22 true,lg 26 25 22 true,og 27 (.un .not (t 26)) 22 true,o 28 (.pick (t 22) (t 27) (.c (.d (.b false))))])
 (.cond (t 28)
 .skip
 (.exit 0)))
 (.seq (.blk 1 (.dreg 1 [⟨m 33 4,2,false,[],none⟩,⟨o 34 (.callf 391 [(t 33)]),3,true,[],none⟩,⟨o 31 (.fadd 6 (t 5)),0,false,[],none⟩,⟨l 32 31,1,false,[],none⟩,⟨o 35 (.bsl 111 16 1 y1 [(0,16,(t 34))]),4,false,[],(some 0)⟩,⟨o 36 (.app 111 16 184 false (t 32) (t 35)),5,true,[],none⟩,⟨o 37 (.fadd 6 (t 5)),6,false,[5,3],none⟩,⟨u (.store 1 (t 37) (t 36)),7,true,[],none⟩]))
 (.reg [m 29 7,o 30 (b .add (t 29) (k 1)),m 7 30]))))))
 (.seq (.seq (.reg [m 38 4,o 39 (.nilchk (t 38)),o 40 (.fadd 1 (t 39)),l 41 40,m 42 41,mg 43 4 42 false,og 44 (.nilchk (t 43)) 42 false,og 45 (.fadd 0 (t 44)) 42 false,lg 46 45 42 false,og 47 (.len 1 (t 46)) 42 false,og 48 (b .gtr (t 47) (k 0)) 42 false,o 49 (.pick (t 42) (.c (.d (.b true))) (t 48))])
 (.cond (t 49)
 (.seq (.reg [o 50 (.build y2 []),u (.store 8 (t 2) (t 50)),o 3 (.mv (k 30))])
 .ret)
 .skip))
 (.seq (.reg [o 51 (.load true 8 (t 5)),u (.store 8 (t 2) (t 51)),o 3 (.mv (k 0))])
 .ret))))))))),false⟩
def a320 : AFn := ⟨6,[.tmp 2],
 (.seq (.reg [o 2 (.mv (.c (.d (.b false))))])
 (.seq (.reg [m 3 0,o 4 (.callf 395 [(t 3),(.c (.d (.fn (.func 396) [] [])))]),o 5 (.un .not (t 4)),m 2 5])
 .ret)),false⟩
def a321 : AFn := ⟨32,[.tmp 2],
 (.seq (.reg [o 2 (.mv (.c .nilsl))])
 (.seq (.reg [m 4 0,o 5 (.nilchk (t 4)),o 6 (.fadd 0 (t 5)),m 3 6])
 (.seq (.dreg 1 [⟨m 7 3,0,false,[],none⟩,⟨o 8 (.nilchk (t 7)),1,false,[],none⟩,⟨o 9 (.fadd 0 (t 8)),2,false,[],none⟩,⟨o 10 (.build [(.d .nilp),(.d (.i .i64 0)),(.d (.i .i64 0))] [(0,1,(t 9)),(1,1,(k 0)),(2,1,(k 400))]),3,false,[],none⟩,⟨m 11 3,4,false,[],none⟩,⟨o 12 (.nilchk (t 11)),5,false,[],none⟩,⟨o 13 (.fadd 1 (t 12)),6,false,[],none⟩,⟨o 14 (.build [(.d .nilp),(.d (.i .i64 0)),(.d (.i .i64 0))] [(0,1,(t 13)),(1,1,(k 0)),(2,1,(k 12))]),7,false,[],none⟩,⟨m 15 3,8,false,[],none⟩,⟨o 16 (.nilchk (t 15)),9,false,[],none⟩,⟨o 17 (.fadd 2 (t 16)),10,false,[],none⟩,⟨o 18 (.build [(.d .nilp),(.d (.i .i64 0)),(.d (.i .i64 0))] [(0,1,(t 17)),(1,1,(k 0)),(2,1,(k 40))]),11,false,[],none⟩,⟨m 19 3,12,false,[],none⟩,⟨o 20 (.nilchk (t 19)),13,false,[],none⟩,⟨o 21 (.fadd 3 (t 20)),14,false,[],none⟩,⟨o 22 (.build [(.d .nilp),(.d (.i .i64 0)),(.d (.i .i64 0))] [(0,1,(t 21)),(1,1,(k 0)),(2,1,(k 9))]),15,false,[],none⟩,⟨m 23 3,16,false,[],none⟩,⟨o 24 (.nilchk (t 23)),17,false,[],none⟩,⟨o 25 (.fadd 4 (t 24)),18,false,[],none⟩,⟨o 26 (.build [(.d .nilp),(.d (.i .i64 0)),(.d (.i .i64 0))] [(0,1,(t 25)),(1,1,(k 0)),(2,1,(k 12))]),19,false,[],none⟩,⟨m 27 0,20,false,[],none⟩,⟨o 28 (.nilchk (t 27)),21,false,[],none⟩,⟨o 29 (.fadd 5 (t 28)),22,false,[],none⟩,⟨o 30 (.build [(.d .nilp),(.d (.i .i64 0)),(.d (.i .i64 0))] [(0,1,(t 29)),(1,1,(k 0)),(2,1,(k 12))]),23,false,[],none⟩,⟨o 31 (.bsl 467 3 6 [(.d .nilp),(.d (.i .i64 0)),(.d (.i .i64 0))] [(0,3,(t 10)),(3,3,(t 14)),(6,3,(t 18)),(9,3,(t 22)),(12,3,(t 26)),(15,3,(t 30))]),24,false,[],(some 0)⟩,⟨m 2 31,25,false,[],none⟩])
 .ret))),false⟩
def a322 : AFn := ⟨6,[.tmp 2],
 (.seq (.reg [o 1 (.box 111 (t 0)),o 2 (.mv (.c (.d (.b false))))])
 (.seq (.reg [o 3 (.load true 16 (t 1)),o 4 (.callf 323 [(t 3)]),o 5 (.un .not (t 4)),m 2 5])
 .ret)),false⟩
def a323 : AFn := ⟨59,[.tmp 2],
 (.seq (.reg [o 1 (.box 111 (t 0)),o 2 (.mv (.c (.d (.b false))))])
 (.seq (.reg [o 5 (.fadd 2 (t 1)),l 6 5,o 7 (.cvi .i64 (t 6)),o 8 (.fadd 9 (t 1)),l 9 8,o 10 (.cvi .i64 (t 9)),o 11 (.build y6 [(0,1,(t 7)),(1,1,(t 10))]),o 12 (.box 472 (t 11)),m 3 12])
 (.seq (.reg [o 4 (.mv (.c (.d (.fn (.func 397) [] []))))])
 (.seq (.reg [o 13 (.fadd 0 (t 1)),l 14 13,o 15 (.callf 298 [(t 14)]),m 16 15,og 17 (.fadd 1 (t 1)) 16 true,lg 18 17 16 true,og 19 (b .eql (t 18) (.c (.d (.s [])))) 16 true,mg 20 19 16 true,og 21 (.fadd 1 (t 1)) 20 false,lg 22 21 20 false,og 23 (.callf 154 [(t 22)]) 20 false,og 24 (.pick (t 20) (.c (.d (.b true))) (t 23)) 16 true,o 25 (.pick (t 16) (t 24) (.c (.d (.b false)))),m 26 25,mg 27 3 26 true,og 28 (.callf 398 [(t 1),(t 27)]) 26 true,og 29 (.callf 320 [(t 28)]) 26 true,o 30 (.pick (t 26) (t 29) (.c (.d (.b false)))),m 31 30,mg 32 3 31 true,og 33 (.callf 399 [(t 1),(t 32)]) 31 true,og 34 (.callf 320 [(t 33)]) 31 true,o 35 (.pick (t 31) (t 34) (.c (.d (.b false)))),m 36 35,og 37 (.fadd 6 (t 1)) 36 true,lg 38 37 36 true,og 39 (.len 1 (t 38)) 36 true,og 40 (b .leq (t 39) (k 21)) 36 true,o 41 (.pick (t 36) (t 40) (.c (.d (.b false)))),m 42 41,og 43 (.fadd 6 (t 1)) 42 true,lg 44 43 42 true,mg 45 4 42 true,og 46 (.callf 400 [(t 44),(t 45)]) 42 true,og 47 (.un .not (t 46)) 42 true,o 48 (.pick (t 42) (t 47) (.c (.d (.b false)))),m 49 48,og 50 (.fadd 11 (t 1)) 49 true,lg 51 50 49 true,og 52 (b .geq (t 51) (k 0)) 49 true,o 53 (.pick (t 49) (t 52) (.c (.d (.b false)))),m 54 53,og 55 (.fadd 12 (t 1)) 54 true,og 56 (.load true 4 (t 55)) 54 true,og 57 (.callf 118 [(t 56)]) 54 true,o 58 (.pick (t 54) (t 57) (.c (.d (.b false)))),m 2 58])
 .ret)))),false⟩
def a324 : AFn := ⟨38,[.tmp 2],
 (.seq (.reg [o 2 (.mv (.c (.d (.b false))))])
 (.seq (.seq (.reg [m 5 0,o 6 (.len 1 (t 5)),o 7 (.mv (k 0))])
 (.blk 0 (.loop (.seq (.reg [o 8 (b .lss (t 7) (t 6))])
 (.seq (.cond (t 8)
 .skip
 (.exit 0))
 (.seq (.blk 1 (.seq (.reg [m 9 7,o 10 (.iaS 16 (t 5) (t 7)),o 11 (.load true 16 (t 10)),o 4 (.alloc 111 y1),m 3 9,u (.store 16 (t 4) (t 11))])
 (.seq (.dreg 0 [⟨o 12 (.fadd 4 (t 4)),0,false,[],none⟩,⟨l 13 12,1,false,[],none⟩,⟨o 14 (b .lss (t 13) (k (-1))),2,false,[],none⟩,⟨m 15 14,3,false,[],none⟩,⟨og 16 (.fadd 4 (t 4)) 15 false,4,false,[],none⟩,⟨lg 17 16 15 false,5,false,[],none⟩,⟨mg 18 3 15 false,6,false,[],none⟩,⟨og 19 (b .geq (t 17) (t 18)) 15 false,7,false,[],none⟩,⟨o 20 (.pick (t 15) (.c (.d (.b true))) (t 19)),8,false,[],none⟩,⟨m 21 20,9,false,[],none⟩,⟨og 22 (.fadd 4 (t 4)) 21 false,10,false,[],none⟩,⟨lg 23 22 21 false,11,false,[],none⟩,⟨og 24 (b .geq (t 23) (k 0)) 21 false,12,false,[],none⟩,⟨mg 25 24 21 false,13,false,[],none⟩,⟨mg 26 0 25 true,14,false,[],none⟩,⟨og 27 (.fadd 4 (t 4)) 25 true,15,false,[],none⟩,⟨lg 28 27 25 true,16,false,[],none⟩,⟨og 29 (.iaS 16 (t 26) (t 28)) 25 true,17,false,[],none⟩,⟨og 30 (.fadd 3 (t 29)) 25 true,18,false,[],none⟩,⟨lg 31 30 25 true,19,false,[],none⟩,⟨og 32 (.fadd 3 (t 4)) 25 true,20,false,[],none⟩,⟨lg 33 32 25 true,21,false,[],none⟩,⟨og 34 (b .neq (t 31) (t 33)) 25 true,22,false,[],none⟩,⟨og 35 (.pick (t 25) (t 34) (.c (.d (.b false)))) 21 false,23,false,[],none⟩,⟨o 36 (.pick (t 21) (.c (.d (.b true))) (t 35)),24,false,[],none⟩])
 (.cond (t 36)
 (.seq (.reg [o 2 (.mv (.c (.d (.b false))))])
 .ret)
 .skip))))
 (.reg [o 37 (b .add (t 7) (k 1)),m 7 37])))))))
 (.seq (.reg [o 2 (.mv (.c (.d (.b true))))])
 .ret))),false⟩
def a325 : AFn := ⟨24,[.tmp 4],
 (.seq (.reg [o 4 (.mv (.c (.d (.b false))))])
 (.seq (.seq (.reg [m 7 0,o 8 (.nilchk (t 7)),o 9 (.fadd 0 (t 8)),o 10 (.fadd 6 (t 9)),l 11 10,o 12 (.len 1 (t 11)),o 13 (.mv (k 0))])
 (.blk 0 (.loop (.seq (.reg [o 14 (b .lss (t 13) (t 12))])
 (.seq (.cond (t 14)
 .skip
 (.exit 0))
 (.seq (.blk 1 (.seq (.reg [m 15 13,o 16 (.iaS 16 (t 11) (t 13)),o 17 (.load true 16 (t 16)),o 6 (.alloc 111 y1),m 5 15,u (.store 16 (t 6) (t 17))])
 (.seq (.reg [m 18 1,m 19 5,o 20 (.load true 16 (t 6)),o 21 (.callv (t 18) [(t 19),(t 20)]),o 22 (.un .not (t 21))])
 (.cond (t 22)
 (.seq (.reg [o 4 (.mv (.c (.d (.b false))))])
 .ret)
 .skip))))
 (.reg [o 23 (b .add (t 13) (k 1)),m 13 23])))))))
 (.seq (.reg [o 4 (.mv (.c (.d (.b true))))])
 .ret))),false⟩
def a328 : AFn := ⟨23,[.tmp 4],
 (.seq (.reg [o 4 (.mv (.c (.d (.s []))))])
 (.seq (.reg [m 8 0,o 9 (.callf 307 [(t 8)]),m 7 9,o 10 (.extr (t 7) 0),o 11 (.extr (t 7) 1),o 5 (.alloc 382 y9),u (.store 2 (t 5) (t 10)),m 6 11])
 (.seq (.seq (.reg [m 12 6,o 13 (.un .not (t 12))])
 (.cond (t 13)
 (.seq (.reg [o 4 (.mv (.c (.d (.s []))))])
 .ret)
 .skip))
 (.seq (.reg [o 14 (.fadd 1 (t 5)),l 15 14,m 16 1,o 17 (.build y10 [(0,1,(t 16)),(1,1,(k (-1)))]),o 18 (.bsl 451 2 1 y10 [(0,2,(t 17))]),o 19 (.app 451 2 24 false (t 15) (t 18)),o 20 (.fadd 1 (t 5)),u (.store 1 (t 20) (t 19))])
 (.seq (.reg [o 21 (.load true 2 (t 5)),o 22 (.callf 401 [(t 21)]),m 4 22])
 .ret))))),false⟩
def a335 : AFn := ⟨111,[.tmp 2],
 (.seq (.reg [o 2 (.mv (.c (.d (.b false))))])
 (.seq (.reg [m 14 0,o 15 (.nilchk (t 14)),o 16 (.fadd 0 (t 15)),o 17 (.fadd 6 (t 16)),l 18 17,o 19 (.callf 353 [(t 18),(k 0)]),m 3 19])
 (.seq (.reg [m 20 0,o 21 (.nilchk (t 20)),o 22 (.fadd 0 (t 21)),o 23 (.fadd 6 (t 22)),l 24 23,o 25 (.len 1 (t 24)),o 26 (b .mul (k 2) (t 25)),o 27 (.mksl 3 1 8 [(.d (.i .i64 0))] (t 26) (t 26)),m 4 27])
 (.seq (.reg [m 28 4,o 29 (.len 1 (t 28)),o 30 (.mksl 52 1 24 [.nilsl] (t 29) (t 29)),m 5 30])
 (.seq (.seq (.reg [m 31 3,o 32 (.len 1 (t 31)),o 33 (.mv (k 0))])
 (.blk 0 (.loop (.seq (.reg [o 34 (b .lss (t 33) (t 32))])
 (.seq (.cond (t 34)
 .skip
 (.exit 0))
 (.seq (.blk 1 (.seq (.reg [o 35 (.iaS 2 (t 31) (t 33)),o 36 (.load true 2 (t 35)),o 7 (.alloc 477 y6),u (.store 2 (t 7) (t 36))])
 (.seq (.reg [m 37 4,o 38 (.fadd 1 (t 7)),l 39 38,o 40 (.iaS 1 (t 37) (t 39)),l 41 40,o 42 (b .add (t 41) (k 1)),o 43 (.iaS 1 (t 37) (t 39)),u (.store 1 (t 43) (t 42))])
 (.dreg 1 [⟨m 47 5,3,false,[],none⟩,⟨o 48 (.fadd 0 (t 7)),4,false,[],none⟩,⟨l 49 48,5,false,[],none⟩,⟨o 50 (.iaS 1 (t 47) (t 49)),6,false,[],none⟩,⟨l 51 50,7,false,[],none⟩,⟨o 52 (.fadd 1 (t 7)),8,false,[],none⟩,⟨l 53 52,9,false,[],none⟩,⟨o 54 (.bsl 3 1 1 [(.d (.i .i64 0))] [(0,1,(t 53))]),10,false,[],(some 0)⟩,⟨o 55 (.app 3 1 8 false (t 51) (t 54)),11,true,[],none⟩,⟨m 44 5,0,false,[],none⟩,⟨o 45 (.fadd 0 (t 7)),1,false,[],none⟩,⟨l 46 45,2,false,[],none⟩,⟨o 56 (.iaS 1 (t 44) (t 46)),12,false,[11],none⟩,⟨u (.store 1 (t 56) (t 55)),13,true,[],none⟩]))))
 (.reg [o 57 (b .add (t 33) (k 1)),m 33 57])))))))
 (.seq (.reg [o 8 (.mv (.c .nilsl))])
 (.seq (.seq (.reg [m 58 4,o 59 (.len 1 (t 58)),o 60 (.mv (k 0))])
 (.blk 2 (.loop (.seq (.reg [o 61 (b .lss (t 60) (t 59))])
 (.seq (.cond (t 61)
 .skip
 (.exit 2))
 (.seq (.blk 3 (.seq (.reg [m 62 60,o 63 (.iaS 1 (t 58) (t 60)),l 64 63,m 9 62,m 10 64])
 (.seq (.reg [m 65 10,o 66 (b .eql (t 65) (k 0))])
 (.cond (t 66)
 (.reg [m 67 8,m 68 9,o 69 (.bsl 3 1 1 [(.d (.i .i64 0))] [(0,1,(t 68))]),o 70 (.app 3 1 8 false (t 67) (t 69)),m 8 70])
 .skip))))
 (.reg [o 71 (b .add (t 60) (k 1)),m 60 71])))))))
 (.seq (.seq (.reg [o 11 (.mv (k 0))])
 (.blk 4 (.loop (.seq (.seq (.reg [m 72 11,m 73 8,o 74 (.len 1 (t 73)),o 75 (b .lss (t 72) (t 74))])
 (.cond (t 75)
 .skip
 (.exit 4)))
 (.seq (.blk 5 (.seq (.reg [m 78 5,m 79 8,m 80 11,o 81 (.iaS 1 (t 79) (t 80)),l 82 81,o 83 (.iaS 1 (t 78) (t 82)),l 84 83,o 85 (.len 1 (t 84)),o 86 (.mv (k 0))])
 (.blk 6 (.loop (.seq (.reg [o 87 (b .lss (t 86) (t 85))])
 (.seq (.cond (t 87)
 .skip
 (.exit 6))
 (.seq (.blk 7 (.seq (.reg [o 88 (.iaS 1 (t 84) (t 86)),l 89 88,m 13 89])
 (.seq (.reg [m 90 4,m 91 13,o 92 (.iaS 1 (t 90) (t 91)),l 93 92,o 94 (b .sub (t 93) (k 1)),o 95 (.iaS 1 (t 90) (t 91)),u (.store 1 (t 95) (t 94))])
 (.seq (.reg [m 96 4,m 97 13,o 98 (.iaS 1 (t 96) (t 97)),l 99 98,o 100 (b .eql (t 99) (k 0))])
 (.cond (t 100)
 (.reg [m 101 8,m 102 13,o 103 (.bsl 3 1 1 [(.d (.i .i64 0))] [(0,1,(t 102))]),o 104 (.app 3 1 8 false (t 101) (t 103)),m 8 104])
 .skip)))))
 (.reg [o 105 (b .add (t 86) (k 1)),m 86 105]))))))))
 (.reg [m 76 11,o 77 (b .add (t 76) (k 1)),m 11 77]))))))
 (.seq (.reg [m 106 8,o 107 (.len 1 (t 106)),m 108 4,o 109 (.len 1 (t 108)),o 110 (b .eql (t 107) (t 109)),m 2 110])
 .ret))))))))),false⟩
def a338 : AFn := ⟨43,[.tmp 4],
 (.seq (.reg [o 4 (.mv (.c (.d (.b false))))])
 (.seq (.seq (.reg [m 9 0,o 10 (.nilchk (t 9)),o 11 (.fadd 0 (t 10)),o 12 (.fadd 5 (t 11)),l 13 12,o 14 (.mv (k 0))])
 (.blk 0 (.loop (.seq (.reg [o 15 (b .lss (t 14) (t 13))])
 (.seq (.cond (t 15)
 .skip
 (.exit 0))
 (.seq (.blk 1 (.seq (.reg [m 16 14,m 5 16])
 (.seq (.reg [o 6 (.mv (.c .nilsl))])
 (.seq (.seq (.reg [m 17 0,o 18 (.nilchk (t 17)),o 19 (.fadd 0 (t 18)),o 20 (.fadd 6 (t 19)),l 21 20,o 22 (.len 1 (t 21)),o 23 (.mv (k 0))])
 (.blk 2 (.loop (.seq (.reg [o 24 (b .lss (t 23) (t 22))])
 (.seq (.cond (t 24)
 .skip
 (.exit 2))
 (.seq (.blk 3 (.seq (.reg [m 25 23,o 26 (.iaS 16 (t 21) (t 23)),o 27 (.load true 16 (t 26)),o 8 (.alloc 111 y1),m 7 25,u (.store 16 (t 8) (t 27))])
 (.seq (.reg [o 28 (.fadd 3 (t 8)),l 29 28,m 30 5,o 31 (b .eql (t 29) (t 30))])
 (.cond (t 31)
 (.reg [m 32 6,m 33 7,o 34 (.bsl 3 1 1 [(.d (.i .i64 0))] [(0,1,(t 33))]),o 35 (.app 3 1 8 false (t 32) (t 34)),m 6 35])
 .skip))))
 (.reg [o 36 (b .add (t 23) (k 1)),m 23 36])))))))
 (.seq (.reg [m 37 1,m 38 5,m 39 6,o 40 (.callv (t 37) [(t 38),(t 39)]),o 41 (.un .not (t 40))])
 (.cond (t 41)
 (.seq (.reg [o 4 (.mv (.c (.d (.b false))))])
 .ret)
 .skip))))))
 (.reg [o 42 (b .add (t 14) (k 1)),m 14 42])))))))
 (.seq (.reg [o 4 (.mv (.c (.d (.b true))))])
 .ret))),false⟩
def a349 : AFn := ⟨14,[.tmp 2,.tmp 3],
 (.seq (.reg [o 2 (.mv (.c (.d .nilp))),o 3 (.mv (k 0))])
 (.seq (.seq (.reg [m 4 0,o 5 (b .lss (t 4) (k 0)),m 6 5,mg 7 0 6 false,og 8 (b .gtr (t 7) (k 10000)) 6 false,o 9 (.pick (t 6) (.c (.d (.b true))) (t 8))])
 (.cond (t 9)
 (.seq (.reg [o 2 (.mv (.c (.d .nilp))),o 3 (.mv (k 2))])
 .ret)
 .skip))
 (.seq (.reg [m 10 0,o 11 (.mksl 436 2 48 y12 (t 10) (t 10)),o 12 (.build [(.d (.b false)),.nilsl] [(0,1,(.c (.d (.b true)))),(1,1,(t 11))]),o 13 (.box 438 (t 12)),m 2 13,o 3 (.mv (k 0))])
 .ret))),true⟩
def a350 : AFn := ⟨52,[.tmp 4],
 (.seq (.reg [o 4 (.mv (k 0))])
 (.seq (.seq (.reg [m 7 0,o 8 (.callf 294 [(t 7)])])
 (.cond (t 8)
 (.seq (.reg [o 4 (.mv (k 1))])
 .ret)
 .skip))
 (.seq (.seq (.reg [m 9 0,o 10 (.nilchk (t 9)),o 11 (.fadd 0 (t 10)),l 12 11,m 13 1,o 14 (.callf 404 [(t 12),(t 13)]),m 5 14])
 (.seq (.reg [m 15 5,o 16 (b .neq (t 15) (k 0))])
 (.cond (t 16)
 (.seq (.reg [m 17 5,m 4 17])
 .ret)
 .skip)))
 (.seq (.seq (.reg [m 18 0,o 19 (.nilchk (t 18)),o 20 (.fadd 1 (t 19)),l 21 20,o 22 (.len 1 (t 21)),m 6 22])
 (.blk 0 (.loop (.seq (.seq (.reg [m 23 6,m 24 0,o 25 (.nilchk (t 24)),o 26 (.fadd 0 (t 25)),l 27 26,o 28 (.callf 405 [(t 27)]),o 29 (b .lss (t 23) (t 28))])
 (.cond (t 29)
 .skip
 (.exit 0)))
 (.seq (.blk 1 (.dreg 2 [⟨m 34 0,2,false,[],none⟩,⟨o 35 (.nilchk (t 34)),3,false,[],none⟩,⟨o 36 (.fadd 1 (t 35)),4,false,[],none⟩,⟨l 37 36,5,false,[],none⟩,⟨m 38 6,6,false,[],none⟩,⟨o 39 (.bsl 3 1 1 [(.d (.i .i64 0))] [(0,1,(t 38))]),7,false,[],(some 0)⟩,⟨o 40 (.app 3 1 8 true (t 37) (t 39)),8,true,[],none⟩,⟨m 41 0,9,false,[],none⟩,⟨o 42 (.nilchk (t 41)),10,false,[],none⟩,⟨o 43 (.fadd 2 (t 42)),11,false,[],none⟩,⟨l 44 43,12,false,[],none⟩,⟨m 45 6,13,false,[],none⟩,⟨o 46 (.bsl 3 1 1 [(.d (.i .i64 0))] [(0,1,(t 45))]),14,false,[],(some 1)⟩,⟨o 47 (.app 3 1 8 true (t 44) (t 46)),15,true,[],none⟩,⟨m 32 0,0,false,[],none⟩,⟨o 48 (.nilchk (t 32)),16,false,[15,8],none⟩,⟨o 49 (.fadd 1 (t 48)),17,false,[15,8],none⟩,⟨u (.store 1 (t 49) (t 40)),18,true,[],none⟩,⟨m 33 0,1,false,[],none⟩,⟨o 50 (.nilchk (t 33)),19,false,[18,15,8],none⟩,⟨o 51 (.fadd 2 (t 50)),20,false,[18,15,8],none⟩,⟨u (.store 1 (t 51) (t 47)),21,true,[],none⟩]))
 (.reg [m 30 6,o 31 (b .add (t 30) (k 1)),m 6 31]))))))
 (.seq (.reg [o 4 (.mv (k 0))])
 .ret))))),false⟩
def a351 : AFn := ⟨10,[.tmp 2],
 (.seq (.reg [o 2 (.mv (k 0))])
 (.seq (.seq (.reg [m 3 0,o 4 (.callf 294 [(t 3)])])
 (.cond (t 4)
 (.seq (.reg [o 2 (.mv (k 0))])
 .ret)
 .skip))
 (.seq (.reg [m 5 0,o 6 (.nilchk (t 5)),o 7 (.fadd 0 (t 6)),l 8 7,o 9 (.callf 405 [(t 8)]),m 2 9])
 .ret))),false⟩
def a352 : AFn := ⟨48,[.tmp 6,.tmp 7],
 (.seq (.reg [o 6 (.mv (k 0)),o 7 (.mv (k 0))])
 (.seq (.seq (.reg [m 15 0,m 16 1,m 17 2,o 18 (.callf 406 [(t 15),(t 16),(t 17)]),m 8 18])
 (.seq (.reg [m 19 8,o 20 (b .neq (t 19) (k 0))])
 (.cond (t 20)
 (.seq (.reg [m 21 8,o 6 (.mv (k 0)),m 7 21])
 .ret)
 .skip)))
 (.seq (.reg [m 22 0,o 23 (.callf 407 [(t 22)]),m 9 23])
 (.seq (.reg [m 24 0,m 25 1,m 26 2,o 27 (.callf 408 [(t 24),(t 25),(t 26)])])
 (.seq (.reg [o 10 (.mv (k 0))])
 (.seq (.seq (.reg [m 28 9,o 29 (.len 1 (t 28)),o 30 (.mv (k 0))])
 (.blk 0 (.loop (.seq (.reg [o 31 (b .lss (t 30) (t 29))])
 (.seq (.cond (t 31)
 .skip
 (.exit 0))
 (.seq (.blk 1 (.seq (.reg [m 32 30,o 33 (.iaS 1 (t 28) (t 30)),l 34 33,m 11 32,m 12 34])
 (.seq (.reg [m 36 0,m 37 12,o 38 (.callf 409 [(t 36),(t 37)]),m 35 38,o 39 (.extr (t 35) 0),o 40 (.extr (t 35) 1),m 13 39,m 14 40])
 (.seq (.reg [m 41 13,m 42 11,o 43 (b .neq (t 41) (t 42))])
 (.cond (t 43)
 (.reg [m 44 10,o 45 (b .add (t 44) (k 1)),m 10 45])
 .skip)))))
 (.reg [o 46 (b .add (t 30) (k 1)),m 30 46])))))))
 (.seq (.reg [m 47 10,m 6 47,o 7 (.mv (k 0))])
 .ret))))))),false⟩
def a353 : AFn := ⟨66,[.tmp 4],
 (.seq (.reg [o 4 (.mv (.c .nilsl))])
 (.seq (.reg [o 5 (.mv (.c .nilsl))])
 (.seq (.seq (.reg [m 10 1,o 11 (.mx [(t 10),(k 0)]),m 6 11])
 (.blk 0 (.loop (.seq (.seq (.reg [m 12 6,m 13 0,o 14 (.len 1 (t 13)),o 15 (b .lss (t 12) (t 14))])
 (.cond (t 15)
 .skip
 (.exit 0)))
 (.seq (.blk 1 (.seq (.reg [m 18 5,m 19 6,o 20 (.callf 410 [(t 19)]),m 21 6,o 22 (.callf 411 [(t 21)]),o 23 (.build y6 [(0,1,(t 20)),(1,1,(t 22))]),o 24 (.bsl 477 2 1 y6 [(0,2,(t 23))]),o 25 (.app 477 2 16 false (t 18) (t 24)),m 5 25])
 (.seq (.seq (.reg [m 26 0,m 27 6,o 28 (.iaS 16 (t 26) (t 27)),o 29 (.fadd 6 (t 28)),l 30 29,o 31 (.len 1 (t 30)),o 32 (.mv (k 0))])
 (.blk 2 (.loop (.seq (.reg [o 33 (b .lss (t 32) (t 31))])
 (.seq (.cond (t 33)
 .skip
 (.exit 2))
 (.seq (.blk 3 (.seq (.reg [o 34 (.iaS 1 (t 30) (t 32)),l 35 34,m 8 35])
 (.reg [m 36 5,m 37 8,o 38 (.callf 411 [(t 37)]),m 39 6,o 40 (.callf 410 [(t 39)]),o 41 (.build y6 [(0,1,(t 38)),(1,1,(t 40))]),o 42 (.bsl 477 2 1 y6 [(0,2,(t 41))]),o 43 (.app 477 2 16 false (t 36) (t 42)),m 5 43])))
 (.reg [o 44 (b .add (t 32) (k 1)),m 32 44])))))))
 (.seq (.reg [m 45 0,m 46 6,o 47 (.iaS 16 (t 45) (t 46)),o 48 (.fadd 4 (t 47)),l 49 48,m 9 49])
 (.seq (.reg [m 50 9,o 51 (b .geq (t 50) (k 0))])
 (.cond (t 51)
 (.reg [m 52 5,m 53 9,o 54 (.callf 410 [(t 53)]),m 55 6,o 56 (.callf 410 [(t 55)]),o 57 (.build y6 [(0,1,(t 54)),(1,1,(t 56))]),m 58 6,o 59 (.callf 411 [(t 58)]),m 60 9,o 61 (.callf 411 [(t 60)]),o 62 (.build y6 [(0,1,(t 59)),(1,1,(t 61))]),o 63 (.bsl 477 2 2 y6 [(0,2,(t 57)),(2,2,(t 62))]),o 64 (.app 477 2 16 false (t 52) (t 63)),m 5 64])
 .skip))))))
 (.reg [m 16 6,o 17 (b .add (t 16) (k 1)),m 6 17]))))))
 (.seq (.reg [m 65 5,m 4 65])
 .ret)))),false⟩
def a354 : AFn := ⟨30,[.tmp 4],
 (.seq (.reg [o 4 (.mv (.c (.d (.i .u64 0))))])
 (.seq (.reg [o 5 (.mv (.c (.d (.i .u64 0))))])
 (.seq (.seq (.reg [m 8 0,m 9 1,m 10 1,o 11 (b .add (t 10) (k 8)),m 12 1,o 13 (b .add (t 12) (k 8)),o 14 (.slSl 1 (t 8) (some (t 9)) (some (t 11)) (some (t 13))),o 15 (.len 1 (t 14)),o 16 (.mv (k 0))])
 (.blk 0 (.loop (.seq (.reg [o 17 (b .lss (t 16) (t 15))])
 (.seq (.cond (t 17)
 .skip
 (.exit 0))
 (.seq (.blk 1 (.seq (.reg [m 18 16,o 19 (.iaS 1 (t 14) (t 16)),l 20 19,m 6 18,m 7 20])
 (.reg [m 21 5,m 22 7,o 23 (.cvi .u64 (t 22)),m 24 6,o 25 (b .mul (k 8) (t 24)),o 26 (b .shl (t 23) (t 25)),o 27 (b .or (t 21) (t 26)),m 5 27])))
 (.reg [o 28 (b .add (t 16) (k 1)),m 16 28])))))))
 (.seq (.reg [m 29 5,m 4 29])
 .ret)))),false⟩
def a355 : AFn := ⟨11,[.tmp 2],
 (.seq (.reg [o 1 (.box 226 (t 0)),o 2 (.mv (.c (.d (.b false))))])
 (.seq (.reg [o 3 (.fadd 0 (t 1)),l 4 3,o 5 (b .gtr (t 4) (.c (.d (.i .u64 0)))),m 6 5,og 7 (.fadd 2 (t 1)) 6 true,lg 8 7 6 true,og 9 (b .lss (t 8) (.c (.d (.i .u8 2)))) 6 true,o 10 (.pick (t 6) (t 9) (.c (.d (.b false)))),m 2 10])
 .ret)),false⟩
def a356 : AFn := ⟨29,[],
 (.seq (.reg [m 7 0,m 8 1,m 9 1,o 10 (b .add (t 9) (k 8)),m 11 1,o 12 (b .add (t 11) (k 8)),o 13 (.slSl 1 (t 7) (some (t 8)) (some (t 10)) (some (t 12))),o 14 (.len 1 (t 13)),o 15 (.mv (k 0))])
 (.blk 0 (.loop (.seq (.reg [o 16 (b .lss (t 15) (t 14))])
 (.seq (.cond (t 16)
 .skip
 (.exit 0))
 (.seq (.blk 1 (.seq (.reg [m 17 15,m 6 17])
 (.reg [m 18 0,m 19 1,m 20 6,o 21 (b .add (t 19) (t 20)),m 22 2,m 23 6,o 24 (b .mul (k 8) (t 23)),o 25 (b .shr (t 22) (t 24)),o 26 (.cvi .u8 (t 25)),o 27 (.iaS 1 (t 18) (t 21)),u (.store 1 (t 27) (t 26))])))
 (.reg [o 28 (b .add (t 15) (k 1)),m 15 28]))))))),true⟩
def a357 : AFn := ⟨11,[],
 (.seq (.dreg 0 [⟨l 2 0,0,false,[],none⟩,⟨o 3 (.nilchk (t 2)),1,false,[],none⟩,⟨o 4 (.fadd 32 (t 3)),2,false,[],none⟩,⟨o 5 (.slArr 32 1 (t 4) none none none),3,false,[],none⟩,⟨l 6 1,4,false,[],none⟩,⟨o 7 (.copy 1 (t 5) (t 6)),5,true,[],none⟩])
 (.reg [l 8 0,o 9 (.nilchk (t 8)),o 10 (.fadd 64 (t 9)),u (.store 1 (t 10) (.c (.d (.b true))))])),false⟩
def a358 : AFn := ⟨26,[],
 (.seq (.reg [o 3 (.mv (k 0))])
 (.blk 0 (.loop (.seq (.reg [o 4 (b .lss (t 3) (k 2))])
 (.seq (.cond (t 4)
 .skip
 (.exit 0))
 (.seq (.blk 1 (.seq (.reg [m 5 3,m 1 5])
 (.seq (.reg [l 6 0,m 7 1,o 8 (.nilchk (t 6)),o 9 (.fadd 6 (t 8)),o 10 (.iaA 2 65 (t 9) (t 7)),m 2 10])
 (.seq (.reg [m 11 2,o 12 (.nilchk (t 11)),o 13 (.fadd 64 (t 12)),l 14 13])
 (.cond (t 14)
 (.reg [m 15 2,m 16 2,m 17 2,o 18 (.nilchk (t 17)),o 19 (.fadd 32 (t 18)),o 20 (.load true 32 (t 19)),o 21 (.nilchk (t 15)),o 22 (.fadd 0 (t 21)),u (.store 32 (t 22) (t 20)),o 23 (.nilchk (t 16)),o 24 (.fadd 64 (t 23)),u (.store 1 (t 24) (.c (.d (.b false))))])
 .skip)))))
 (.reg [o 25 (b .add (t 3) (k 1)),m 3 25]))))))),false⟩
def a359 : AFn := ⟨4,[.tmp 2],
 (.seq (.reg [o 1 (.box 64 (t 0)),o 2 (.mv (.c (.d .nilf)))])
 (.seq (.reg [o 3 (.mkfn (.func 412) [] [(t 1)]),m 2 3])
 .ret)),false⟩
def a360 : AFn := ⟨10,[.tmp 4],
 (.seq (.reg [o 4 (.mv (.c (.d (.i .u32 0))))])
 (.seq (.reg [m 5 0,o 6 (.un .xor (t 5)),m 7 1,o 8 (.callf 413 [(t 6),(t 7)]),o 9 (.un .xor (t 8)),m 4 9])
 .ret)),false⟩
def a361 : AFn := ⟨10,[.tmp 4],
 (.seq (.reg [o 4 (.mv (.c .nilsl))])
 (.seq (.reg [m 5 0,o 6 (.clone 222 5 1 1 false (t 5)),m 7 1,o 8 (.callf 415 [(t 7)]),o 9 (.callf 414 [(t 6),(t 8)]),m 4 9])
 .ret)),false⟩
def a362 : AFn := ⟨11,[.tmp 4],
 (.seq (.reg [o 4 (.mv (.c .nilsl))])
 (.seq (.reg [m 5 0,m 6 1,o 7 (.len 0 (t 6)),o 8 (.callf 361 [(t 5),(t 7)]),m 9 1,o 10 (.app 5 1 1 false (t 8) (t 9)),m 4 10])
 .ret)),false⟩
def a363 : AFn := ⟨44,[.tmp 4],
 (.seq (.reg [o 3 (.box 55 (t 1)),o 4 (.mv (.c .nilsl))])
 (.seq (.reg [m 8 0,o 9 (.fadd 0 (t 3)),l 10 9,o 11 (.cvi .i64 (t 10)),o 12 (.callf 361 [(t 8),(t 11)]),m 5 12])
 (.seq (.seq (.reg [o 13 (.fadd 0 (t 3)),l 14 13])
 (.blk 0 (.seq (.reg [o 16 (b .eql (t 14) (.c (.d (.i .u8 0)))),m 15 16])
 (.cond (t 15)
 (.seq (.reg [m 17 5,o 18 (.fadd 1 (t 3)),l 19 18,o 20 (.callf 361 [(t 17),(t 19)]),m 4 20])
 .ret)
 (.seq (.reg [o 22 (b .eql (t 14) (.c (.d (.i .u8 1)))),m 21 22])
 (.cond (t 21)
 (.seq (.reg [m 23 5,o 24 (.fadd 2 (t 3)),l 25 24,o 26 (.callf 362 [(t 23),(t 25)]),m 4 26])
 .ret)
 .skip))))))
 (.seq (.reg [m 27 5,o 28 (.fadd 3 (t 3)),l 29 28,o 30 (.len 1 (t 29)),o 31 (.callf 361 [(t 27),(t 30)]),m 5 31])
 (.seq (.seq (.reg [o 32 (.fadd 3 (t 3)),l 33 32,o 34 (.len 1 (t 33)),o 35 (.mv (k 0))])
 (.blk 1 (.loop (.seq (.reg [o 36 (b .lss (t 35) (t 34))])
 (.seq (.cond (t 36)
 .skip
 (.exit 1))
 (.seq (.blk 2 (.seq (.reg [o 37 (.iaS 4 (t 33) (t 35)),o 38 (.load true 4 (t 37)),o 7 (.alloc 55 y3),u (.store 4 (t 7) (t 38))])
 (.reg [m 39 5,o 40 (.load true 4 (t 7)),o 41 (.callf 363 [(t 39),(t 40)]),m 5 41])))
 (.reg [o 42 (b .add (t 35) (k 1)),m 35 42])))))))
 (.seq (.reg [m 43 5,m 4 43])
 .ret)))))),false⟩
def a364 : AFn := ⟨60,[.tmp 4],
 (.seq (.reg [o 4 (.mv (.c .nilsl))])
 (.seq (.reg [m 10 0,m 11 1,o 12 (.len 1 (t 11)),o 13 (.callf 361 [(t 10),(t 12)]),m 5 13])
 (.seq (.seq (.reg [m 14 1,o 15 (.len 1 (t 14)),o 16 (.mv (k 0))])
 (.blk 0 (.loop (.seq (.reg [o 17 (b .lss (t 16) (t 15))])
 (.seq (.cond (t 17)
 .skip
 (.exit 0))
 (.seq (.blk 1 (.seq (.reg [o 18 (.iaS 6 (t 14) (t 16)),o 19 (.load true 6 (t 18)),o 7 (.alloc 83 y4),u (.store 6 (t 7) (t 19))])
 (.seq (.dreg 0 [⟨m 20 5,0,false,[],none⟩,⟨o 21 (.fadd 0 (t 7)),1,false,[],none⟩,⟨l 22 21,2,false,[],none⟩,⟨o 23 (.callf 362 [(t 20),(t 22)]),3,true,[],none⟩,⟨o 24 (.fadd 1 (t 7)),4,false,[],none⟩,⟨l 25 24,5,false,[],none⟩,⟨o 26 (.cvi .i64 (t 25)),6,false,[],none⟩,⟨o 27 (.callf 361 [(t 23),(t 26)]),7,true,[],none⟩,⟨m 5 27,8,false,[7,3],none⟩])
 (.seq (.reg [m 28 5,o 29 (.fadd 2 (t 7)),l 30 29,o 31 (.len 1 (t 30)),o 32 (.callf 361 [(t 28),(t 31)]),m 5 32])
 (.seq (.seq (.reg [o 33 (.fadd 2 (t 7)),l 34 33,o 35 (.len 1 (t 34)),o 36 (.mv (k 0))])
 (.blk 2 (.loop (.seq (.reg [o 37 (b .lss (t 36) (t 35))])
 (.seq (.cond (t 37)
 .skip
 (.exit 2))
 (.seq (.blk 3 (.seq (.reg [o 38 (.iaS 1 (t 34) (t 36)),l 39 38,m 9 39])
 (.reg [m 40 5,m 41 9,o 42 (.callf 362 [(t 40),(t 41)]),m 5 42])))
 (.reg [o 43 (b .add (t 36) (k 1)),m 36 43])))))))
 (.seq (.reg [m 44 5,o 45 (.fadd 5 (t 7)),l 46 45,o 47 (.callf 361 [(t 44),(t 46)]),m 5 47])
 (.seq (.reg [o 48 (.fadd 1 (t 7)),l 49 48,o 50 (b .eql (t 49) (.c (.d (.i .u8 1))))])
 (.cond (t 50)
 (.dreg 0 [⟨m 51 5,0,false,[],none⟩,⟨o 52 (.fadd 3 (t 7)),1,false,[],none⟩,⟨l 53 52,2,false,[],none⟩,⟨o 54 (.callf 362 [(t 51),(t 53)]),3,true,[],none⟩,⟨o 55 (.fadd 4 (t 7)),4,false,[],none⟩,⟨l 56 55,5,false,[],none⟩,⟨o 57 (.callf 361 [(t 54),(t 56)]),6,true,[],none⟩,⟨m 5 57,7,false,[6,3],none⟩])
 .skip))))))))
 (.reg [o 58 (b .add (t 16) (k 1)),m 16 58])))))))
 (.seq (.reg [m 59 5,m 4 59])
 .ret)))),false⟩
def a365 : AFn := ⟨20,[.tmp 4],
 (.seq (.reg [o 2 (.box 64 (t 0)),o 4 (.mv (.c .nilsl))])
 (.seq (.reg [o 8 (.mkfn (.func 416) [] [(t 2)]),m 5 8])
 (.seq (.seq (.reg [m 9 1,o 10 (.len 1 (t 9)),o 11 (.mv (k 0))])
 (.blk 0 (.loop (.seq (.reg [o 12 (b .lss (t 11) (t 10))])
 (.seq (.cond (t 12)
 .skip
 (.exit 0))
 (.seq (.blk 1 (.seq (.reg [o 13 (.iaS 3 (t 9) (t 11)),o 14 (.load true 3 (t 13)),o 7 (.alloc 467 [(.d .nilp),(.d (.i .i64 0)),(.d (.i .i64 0))]),u (.store 3 (t 7) (t 14))])
 (.reg [m 15 5,o 16 (.load true 3 (t 7)),o 17 (.callv (t 15) [(t 16)])])))
 (.reg [o 18 (b .add (t 11) (k 1)),m 11 18])))))))
 (.seq (.reg [l 19 2,m 4 19])
 .ret)))),false⟩
def a366 : AFn := ⟨53,[.tmp 4],
 (.seq (.reg [o 3 (.box 111 (t 1)),o 4 (.mv (.c .nilsl))])
 (.seq (.reg [o 9 (.fadd 2 (t 3)),l 10 9,o 11 (.cvi .i64 (t 10)),o 12 (.fadd 9 (t 3)),l 13 12,o 14 (.cvi .i64 (t 13)),o 15 (.build y6 [(0,1,(t 11)),(1,1,(t 14))]),o 16 (.box 472 (t 15)),m 5 16])
 (.seq (.dreg 0 [⟨m 17 0,0,false,[],none⟩,⟨o 18 (.fadd 0 (t 3)),1,false,[],none⟩,⟨l 19 18,2,false,[],none⟩,⟨o 20 (.callf 362 [(t 17),(t 19)]),3,true,[],none⟩,⟨o 21 (.fadd 1 (t 3)),4,false,[],none⟩,⟨l 22 21,5,false,[],none⟩,⟨o 23 (.callf 362 [(t 20),(t 22)]),6,true,[],none⟩,⟨m 24 5,7,false,[],none⟩,⟨o 25 (.callf 398 [(t 3),(t 24)]),8,true,[],none⟩,⟨o 26 (.callf 365 [(t 23),(t 25)]),9,true,[],none⟩,⟨m 6 26,10,false,[9,8,6,3],none⟩])
 (.seq (.reg [m 27 6,o 28 (.fadd 6 (t 3)),l 29 28,o 30 (.len 1 (t 29)),o 31 (.callf 361 [(t 27),(t 30)]),m 6 31])
 (.seq (.seq (.reg [o 32 (.fadd 6 (t 3)),l 33 32,o 34 (.len 1 (t 33)),o 35 (.mv (k 0))])
 (.blk 0 (.loop (.seq (.reg [o 36 (b .lss (t 35) (t 34))])
 (.seq (.cond (t 36)
 .skip
 (.exit 0))
 (.seq (.blk 1 (.seq (.reg [o 37 (.iaS 1 (t 33) (t 35)),l 38 37,m 8 38])
 (.reg [m 39 6,m 40 8,o 41 (.callf 361 [(t 39),(t 40)]),m 6 41])))
 (.reg [o 42 (b .add (t 35) (k 1)),m 35 42])))))))
 (.seq (.dreg 0 [⟨m 44 5,1,false,[],none⟩,⟨o 45 (.callf 399 [(t 3),(t 44)]),2,true,[],none⟩,⟨m 43 6,0,false,[],none⟩,⟨o 46 (.callf 365 [(t 43),(t 45)]),3,true,[],none⟩,⟨o 47 (.fadd 11 (t 3)),4,false,[],none⟩,⟨l 48 47,5,false,[],none⟩,⟨o 49 (.callf 361 [(t 46),(t 48)]),6,true,[],none⟩,⟨o 50 (.fadd 12 (t 3)),7,false,[],none⟩,⟨o 51 (.load true 4 (t 50)),8,false,[],none⟩,⟨o 52 (.callf 363 [(t 49),(t 51)]),9,true,[],none⟩,⟨m 4 52,10,false,[9,6,3,2],none⟩])
 .ret)))))),false⟩
def a367 : AFn := ⟨36,[.tmp 2],
 (.seq (.reg [o 2 (.mv (.c .nilsl))])
 (.seq (.reg [o 3 (.mv (k 0))])
 (.seq (.seq (.reg [m 9 0,o 10 (.len 1 (t 9)),o 11 (.mv (k 0))])
 (.blk 0 (.loop (.seq (.reg [o 12 (b .lss (t 11) (t 10))])
 (.seq (.cond (t 12)
 .skip
 (.exit 0))
 (.seq (.blk 1 (.seq (.reg [o 13 (.iaS 1 (t 9) (t 11)),l 14 13,m 5 14])
 (.seq (.reg [m 15 3,m 16 5,o 17 (.len 1 (t 16)),o 18 (b .add (t 15) (t 17)),m 3 18])
 (.seq (.reg [m 19 3,o 20 (b .lss (t 19) (k 0))])
 (.cond (t 20)
 (.reg [o 21 (.mkif 9 (.c (.d (.s [108,101,110,32,111,117,116,32,111,102,32,114,97,110,103,101])))),u (.panic (t 21))])
 .skip)))))
 (.reg [o 22 (b .add (t 11) (k 1)),m 11 22])))))))
 (.seq (.reg [m 23 3,o 24 (.callf 417 [(.c .nilsl),(t 23)]),m 6 24])
 (.seq (.seq (.reg [m 25 0,o 26 (.len 1 (t 25)),o 27 (.mv (k 0))])
 (.blk 2 (.loop (.seq (.reg [o 28 (b .lss (t 27) (t 26))])
 (.seq (.cond (t 28)
 .skip
 (.exit 2))
 (.seq (.blk 3 (.seq (.reg [o 29 (.iaS 1 (t 25) (t 27)),l 30 29,m 8 30])
 (.reg [m 31 6,m 32 8,o 33 (.app 5 1 1 false (t 31) (t 32)),m 6 33])))
 (.reg [o 34 (b .add (t 27) (k 1)),m 27 34])))))))
 (.seq (.reg [m 35 6,m 2 35])
 .ret)))))),false⟩
def a368 : AFn := ⟨31,[],
 (.seq (.reg [o 4 (.mv (k 0))])
 (.blk 0 (.loop (.seq (.seq (.reg [m 6 4,l 7 1,o 8 (.len 1 (t 7)),o 9 (b .lss (t 6) (t 8))])
 (.cond (t 9)
 .skip
 (.exit 0)))
 (.seq (.blk 1 (.seq (.dreg 0 [⟨l 13 2,0,false,[],none⟩,⟨l 14 1,1,false,[],none⟩,⟨m 15 4,2,false,[],none⟩,⟨o 16 (.slSl 1 (t 14) (some (t 15)) none none),3,false,[],none⟩,⟨o 17 (.len 1 (t 16)),4,false,[],none⟩,⟨o 18 (.mn [(t 13),(t 17)]),5,false,[],none⟩,⟨m 5 18,6,false,[],none⟩])
 (.seq (.reg [m 19 0,l 20 1,m 21 4,m 22 4,m 23 5,o 24 (b .add (t 22) (t 23)),m 25 4,m 26 5,o 27 (b .add (t 25) (t 26)),o 28 (.slSl 1 (t 20) (some (t 21)) (some (t 24)) (some (t 27))),o 29 (.callv (t 19) [(t 28)]),o 30 (.un .not (t 29))])
 (.cond (t 30)
 .ret
 .skip))))
 (.reg [m 10 4,l 11 2,o 12 (b .add (t 10) (t 11)),m 4 12])))))),false⟩
def a369 : AFn := ⟨19,[.tmp 4],
 (.seq (.reg [o 4 (.mv (k 0))])
 (.seq (.seq (.reg [m 6 0,o 7 (.len 1 (t 6)),o 8 (.mv (k 0))])
 (.blk 0 (.loop (.seq (.reg [o 9 (b .lss (t 8) (t 7))])
 (.seq (.cond (t 9)
 .skip
 (.exit 0))
 (.seq (.blk 1 (.seq (.reg [m 10 8,m 5 10])
 (.seq (.reg [m 11 1,m 12 0,m 13 5,o 14 (.iaS 1 (t 12) (t 13)),l 15 14,o 16 (.callv (t 11) [(t 15)])])
 (.cond (t 16)
 (.seq (.reg [m 17 5,m 4 17])
 .ret)
 .skip))))
 (.reg [o 18 (b .add (t 8) (k 1)),m 8 18])))))))
 (.seq (.reg [o 4 (.mv (k (-1)))])
 .ret))),false⟩
def a370 : AFn := ⟨12,[.tmp 2],
 (.seq (.reg [o 2 (.mv (.c (.d (.b false))))])
 (.seq (.reg [m 3 0,o 4 (.bin .eql .ptr (t 3) (.c (.d .nilp))),m 5 4,mg 6 0 5 false,og 7 (.nilchk (t 6)) 5 false,og 8 (.fadd 0 (t 7)) 5 false,lg 9 8 5 false,og 10 (.un .not (t 9)) 5 false,o 11 (.pick (t 5) (.c (.d (.b true))) (t 10)),m 2 11])
 .ret)),false⟩
def a372 : AFn := ⟨9,[.tmp 2],
 (.seq (.reg [o 2 (.mv (.c (.d (.b false))))])
 (.seq (.reg [m 3 0,o 4 (b .lss (t 3) (.c (.d (.i .i32 33)))),m 5 4,mg 6 0 5 false,og 7 (b .gtr (t 6) (.c (.d (.i .i32 126)))) 5 false,o 8 (.pick (t 5) (.c (.d (.b true))) (t 7)),m 2 8])
 .ret)),false⟩
def a373 : AFn := ⟨9,[.tmp 4],
 (.seq (.reg [o 4 (.mv (.c (.d (.b false))))])
 (.seq (.reg [m 5 0,m 6 1,o 7 (.callf 418 [(t 5),(t 6)]),o 8 (b .geq (t 7) (k 0)),m 4 8])
 .ret)),false⟩
def a374 : AFn := ⟨32,[.tmp 6],
 (.seq (.reg [o 6 (.mv (.c (.d (.b false))))])
 (.seq (.seq (.reg [m 10 0,o 11 (.len 1 (t 10)),m 12 1,o 13 (.len 1 (t 12)),o 14 (b .neq (t 11) (t 13))])
 (.cond (t 14)
 (.seq (.reg [o 6 (.mv (.c (.d (.b false))))])
 .ret)
 .skip))
 (.seq (.seq (.reg [m 15 0,o 16 (.len 1 (t 15)),o 17 (.mv (k 0))])
 (.blk 0 (.loop (.seq (.reg [o 18 (b .lss (t 17) (t 16))])
 (.seq (.cond (t 18)
 .skip
 (.exit 0))
 (.seq (.blk 1 (.seq (.reg [m 19 17,o 20 (.iaS 4 (t 15) (t 17)),o 21 (.load true 4 (t 20)),o 8 (.alloc 55 y3),m 7 19,u (.store 4 (t 8) (t 21))])
 (.seq (.reg [m 22 1,m 23 7,o 24 (.iaS 4 (t 22) (t 23)),o 25 (.load true 4 (t 24)),o 9 (.alloc 55 y3),u (.store 4 (t 9) (t 25))])
 (.seq (.reg [m 26 2,o 27 (.load true 4 (t 8)),o 28 (.load true 4 (t 9)),o 29 (.callv (t 26) [(t 27),(t 28)]),o 30 (.un .not (t 29))])
 (.cond (t 30)
 (.seq (.reg [o 6 (.mv (.c (.d (.b false))))])
 .ret)
 .skip)))))
 (.reg [o 31 (b .add (t 17) (k 1)),m 17 31])))))))
 (.seq (.reg [o 6 (.mv (.c (.d (.b true))))])
 .ret)))),false⟩
def a375 : AFn := ⟨25,[.cell 10 false 1],
 (.seq (.reg [o 5 (.box 33 (t 0)),o 10 (.alloc 39 [(.d (.i .i64 0))])])
 (.seq (.seq (.reg [o 13 (.load true 5 (t 5)),m 14 1,m 15 2,m 16 3,m 17 4,o 18 (.build y8 [(0,5,(t 13)),(5,1,(t 14)),(6,1,(t 15)),(7,1,(t 16)),(8,1,(t 17))]),o 19 (.callf 419 [(t 18)])])
 (.blk 0 (.rfun (t 19) [20,21] (.seq (.reg [m 11 20])
 (.reg [m 12 21])) (.blk 1 (.seq (.reg [m 22 12,o 23 (.callv (t 22) [])])
 (.cond (t 23)
 (.seq (.reg [m 24 11,u (.store 1 (t 10) (t 24))])
 .ret)
 .skip))))))
 (.seq (.reg [u (.store 1 (t 10) (k 0))])
 .ret))),false⟩
def a376 : AFn := ⟨109,[.tmp 8,.tmp 9],
 (.seq (.reg [o 4 (.box 36 (t 0)),o 6 (.box 3 (t 2)),o 7 (.box 56 (t 3)),o 8 (.mv (.c .nilsl)),o 9 (.mv (k 0))])
 (.seq (.seq (.reg [l 22 7,o 23 (.callf 74 [(t 22)]),o 24 (.un .not (t 23))])
 (.cond (t 24)
 (.seq (.reg [o 8 (.mv (.c .nilsl)),o 9 (.mv (k 2))])
 .ret)
 .skip))
 (.seq (.reg [o 10 (.alloc 39 [(.d (.i .i64 0))]),u (.store 1 (t 10) (k 0))])
 (.seq (.reg [o 25 (.mkfn (.func 420) [] [(t 4),(t 6),(t 7),(t 10)]),m 11 25])
 (.seq (.reg [o 12 (.mv (.c .nilsl))])
 (.seq (.reg [o 26 (.load true 8 (t 4)),m 27 1,l 28 6,o 29 (.callf 422 [(t 26),(t 27),(t 28)]),m 13 29])
 (.seq (.seq (.reg [l 30 7,o 31 (.len 1 (t 30)),o 32 (.mv (k 0))])
 (.blk 0 (.loop (.seq (.reg [o 33 (b .lss (t 32) (t 31))])
 (.seq (.cond (t 33)
 .skip
 (.exit 0))
 (.seq (.blk 1 (.seq (.reg [o 34 (.iaS 6 (t 30) (t 32)),o 35 (.load true 6 (t 34)),o 15 (.alloc 83 y4),u (.store 6 (t 15) (t 35))])
 (.seq (.dreg 1 [⟨m 36 13,0,false,[],none⟩,⟨o 37 (.fadd 0 (t 15)),1,false,[],none⟩,⟨l 38 37,2,false,[],none⟩,⟨o 39 (.callf 328 [(t 36),(t 38)]),3,true,[],none⟩,⟨o 40 (.fadd 0 (t 15)),4,false,[],none⟩,⟨l 41 40,5,false,[],none⟩,⟨o 42 (.fadd 1 (t 15)),6,false,[],none⟩,⟨l 43 42,7,false,[],none⟩,⟨m 44 1,8,false,[],none⟩,⟨l 45 6,9,false,[],none⟩,⟨o 46 (.fadd 4 (t 15)),10,false,[],none⟩,⟨l 47 46,11,false,[],none⟩,⟨o 48 (.fadd 5 (t 15)),12,false,[],none⟩,⟨l 49 48,13,false,[],none⟩,⟨o 50 (.build y1 [(0,1,(t 39)),(1,1,(t 41)),(2,1,(t 43)),(3,1,(t 44)),(4,1,(t 45)),(5,1,(k (-1))),(7,1,(t 47)),(8,1,(t 49))]),14,false,[3],none⟩,⟨o 16 (.alloc 111 y1),15,false,[],(some 0)⟩,⟨u (.store 16 (t 16) (t 50)),16,true,[],none⟩])
 (.seq (.seq (.reg [o 51 (.fadd 1 (t 15)),l 52 51,o 53 (b .eql (t 52) (.c (.d (.i .u8 1))))])
 (.cond (t 53)
 (.dreg 1 [⟨m 56 11,2,false,[],none⟩,⟨o 57 (.fadd 3 (t 15)),3,false,[],none⟩,⟨l 58 57,4,false,[],none⟩,⟨o 59 (.callv (t 56) [(t 58)]),5,true,[],none⟩,⟨o 54 (.fadd 6 (t 16)),0,false,[],none⟩,⟨l 55 54,1,false,[],none⟩,⟨o 60 (.bsl 3 1 1 [(.d (.i .i64 0))] [(0,1,(t 59))]),6,false,[],(some 0)⟩,⟨o 61 (.app 3 1 8 false (t 55) (t 60)),7,true,[],none⟩,⟨o 62 (.fadd 6 (t 16)),8,false,[7,5],none⟩,⟨u (.store 1 (t 62) (t 61)),9,true,[],none⟩])
 .skip))
 (.seq (.seq (.reg [o 63 (.fadd 2 (t 15)),l 64 63,o 65 (.len 1 (t 64)),o 66 (.mv (k 0))])
 (.blk 2 (.loop (.seq (.reg [o 67 (b .lss (t 66) (t 65))])
 (.seq (.cond (t 67)
 .skip
 (.exit 2))
 (.seq (.blk 3 (.seq (.reg [o 68 (.iaS 1 (t 64) (t 66)),l 69 68,m 18 69])
 (.dreg 1 [⟨m 72 11,2,false,[],none⟩,⟨m 73 18,3,false,[],none⟩,⟨o 74 (.callv (t 72) [(t 73)]),4,true,[],none⟩,⟨o 70 (.fadd 6 (t 16)),0,false,[],none⟩,⟨l 71 70,1,false,[],none⟩,⟨o 75 (.bsl 3 1 1 [(.d (.i .i64 0))] [(0,1,(t 74))]),5,false,[],(some 0)⟩,⟨o 76 (.app 3 1 8 false (t 71) (t 75)),6,true,[],none⟩,⟨o 77 (.fadd 6 (t 16)),7,false,[6,4],none⟩,⟨u (.store 1 (t 77) (t 76)),8,true,[],none⟩])))
 (.reg [o 78 (b .add (t 66) (k 1)),m 66 78])))))))
 (.reg [m 79 12,o 80 (.load true 16 (t 16)),o 81 (.bsl 111 16 1 y1 [(0,16,(t 80))]),o 82 (.app 111 16 184 false (t 79) (t 81)),m 12 82]))))))
 (.reg [o 83 (b .add (t 32) (k 1)),m 32 83])))))))
 (.seq (.seq (.reg [l 84 10,o 85 (b .neq (t 84) (k 0))])
 (.cond (t 85)
 (.seq (.dreg 0 [⟨l 86 10,0,false,[],none⟩,⟨o 8 (.mv (.c .nilsl)),1,false,[],none⟩,⟨m 9 86,2,false,[],none⟩])
 .ret)
 .skip))
 (.seq (.seq (.reg [m 87 12,o 88 (.len 1 (t 87)),o 89 (.mv (k 0))])
 (.blk 4 (.loop (.seq (.reg [o 90 (b .lss (t 89) (t 88))])
 (.seq (.cond (t 90)
 .skip
 (.exit 4))
 (.seq (.blk 5 (.seq (.reg [o 91 (.iaS 16 (t 87) (t 89)),o 92 (.load true 16 (t 91)),o 20 (.alloc 111 y1),u (.store 16 (t 20) (t 92))])
 (.seq (.seq (.reg [o 93 (.fadd 2 (t 20)),l 94 93,o 95 (b .neq (t 94) (.c (.d (.i .u8 1))))])
 (.cond (t 95)
 (.exit 5)
 .skip))
 (.seq (.dreg 0 [⟨o 96 (.load true 8 (t 4)),0,false,[],none⟩,⟨o 97 (.fadd 6 (t 20)),1,false,[],none⟩,⟨l 98 97,2,false,[],none⟩,⟨o 99 (.iaS 1 (t 98) (k 0)),3,false,[],none⟩,⟨l 100 99,4,false,[],none⟩,⟨o 101 (.fadd 7 (t 20)),5,false,[],none⟩,⟨l 102 101,6,false,[],none⟩,⟨o 103 (.callf 423 [(t 96),(t 100),(t 102)]),7,true,[],none⟩,⟨m 21 103,8,false,[7],none⟩])
 (.seq (.reg [m 104 21,o 105 (b .neq (t 104) (k 0))])
 (.cond (t 105)
 (.seq (.reg [m 106 21,o 8 (.mv (.c .nilsl)),m 9 106])
 .ret)
 .skip))))))
 (.reg [o 107 (b .add (t 89) (k 1)),m 89 107])))))))
 (.seq (.reg [m 108 12,m 8 108,o 9 (.mv (k 0))])
 .ret)))))))))),false⟩
def a377 : AFn := ⟨42,[.cell 6 true 8,.tmp 7],
 (.seq (.reg [o 4 (.box 36 (t 1)),o 6 (.alloc 36 y2),o 7 (.mv (k 0))])
 (.seq (.reg [o 11 (.load true 8 (t 4)),o 12 (.callf 120 [(t 11)]),o 8 (.alloc 36 y2),u (.store 8 (t 8) (t 12))])
 (.seq (.dreg 1 [⟨m 15 2,2,false,[],none⟩,⟨o 16 (.build y2 [(6,1,(t 15))]),3,false,[],none⟩,⟨o 17 (.callf 120 [(t 16)]),4,true,[],none⟩,⟨o 13 (.fadd 6 (t 8)),0,false,[],none⟩,⟨l 14 13,1,false,[],none⟩,⟨o 18 (.fld 6 false 1 (t 17)),5,false,[4],none⟩,⟨o 19 (.bsl 34 1 2 [.nilsl] [(0,1,(t 14)),(1,1,(t 18))]),6,false,[],(some 0)⟩,⟨o 20 (.callf 424 [(t 19)]),7,true,[],none⟩,⟨o 21 (.fadd 6 (t 8)),8,false,[7,4],none⟩,⟨u (.store 1 (t 21) (t 20)),9,true,[],none⟩])
 (.seq (.seq (.reg [m 23 0,m 24 2,o 25 (.len 1 (t 24)),o 26 (b .mul (k 2) (t 25)),o 27 (.fadd 6 (t 8)),l 28 27,o 29 (.fadd 6 (t 4)),l 30 29,o 31 (.len 1 (t 30)),o 32 (.callf 353 [(t 28),(t 31)]),o 33 (.callf 352 [(t 23),(t 26),(t 32)]),m 22 33,o 34 (.extr (t 22) 0),o 35 (.extr (t 22) 1),m 9 34,m 10 35])
 (.seq (.reg [m 36 10,o 37 (b .neq (t 36) (k 0))])
 (.cond (t 37)
 (.seq (.reg [o 38 (.load true 8 (t 4)),o 39 (.callf 120 [(t 38)]),m 40 10,u (.store 8 (t 6) (t 39)),m 7 40])
 .ret)
 .skip)))
 (.seq (.reg [o 41 (.load true 8 (t 8)),u (.store 8 (t 6) (t 41)),o 7 (.mv (k 0))])
 .ret))))),false⟩
def a378 : AFn := ⟨22,[.cell 2 true 8],
 (.seq (.reg [o 1 (.box 36 (t 0)),o 2 (.alloc 36 y2)])
 (.seq (.reg [o 4 (.load true 8 (t 1)),o 5 (.callf 385 [(t 4)]),u (.store 8 (t 1) (t 5))])
 (.seq (.seq (.reg [o 6 (.load true 8 (t 1)),o 7 (.callf 425 [(t 6)]),m 3 7])
 (.blk 0 (.loop (.seq (.seq (.reg [m 8 3,o 9 (.len 1 (t 8)),o 10 (b .gtr (t 9) (k 0))])
 (.cond (t 10)
 .skip
 (.exit 0)))
 (.seq (.blk 1 (.dreg 0 [⟨o 14 (.load true 8 (t 1)),0,false,[],none⟩,⟨m 15 3,1,false,[],none⟩,⟨o 16 (.iaS 1 (t 15) (k 0)),2,false,[],none⟩,⟨l 17 16,3,false,[],none⟩,⟨o 18 (.callf 426 [(t 14),(t 17)]),4,true,[],none⟩,⟨m 13 18,5,false,[4],none⟩,⟨o 19 (.extr (t 13) 0),6,false,[4],none⟩,⟨u (.store 8 (t 1) (t 19)),8,true,[],none⟩,⟨o 20 (.extr (t 13) 1),7,false,[4],none⟩]))
 (.reg [o 11 (.load true 8 (t 1)),o 12 (.callf 425 [(t 11)]),m 3 12]))))))
 (.seq (.reg [o 21 (.load true 8 (t 1)),u (.store 8 (t 2) (t 21))])
 .ret)))),false⟩
def a379 : AFn := ⟨13,[.tmp 4],
 (.seq (.reg [o 4 (.mv (.c (.d (.b false))))])
 (.seq (.reg [m 5 1,o 6 (b .geq (t 5) (k 0)),m 7 6,mg 8 1 7 true,mg 9 0 7 true,og 10 (.len 1 (t 9)) 7 true,og 11 (b .lss (t 8) (t 10)) 7 true,o 12 (.pick (t 7) (t 11) (.c (.d (.b false)))),m 4 12])
 .ret)),false⟩
def a383 : AFn := ⟨24,[.tmp 2],
 (.seq (.reg [o 2 (.mv (k 0))])
 (.seq (.reg [m 6 0,o 7 (.callf 111 [(t 6)]),m 5 7,o 8 (.extr (t 5) 0),o 9 (.extr (t 5) 1),m 3 8,m 4 9])
 (.seq (.seq (.reg [m 10 4,o 11 (.bin .neq .iface (t 10) (.c (.d .nili))),m 12 11,mg 13 3 12 false,og 14 (.callf 429 [(t 13)]) 12 false,og 15 (.un .not (t 14)) 12 false,o 16 (.pick (t 12) (.c (.d (.b true))) (t 15)),m 17 16,mg 18 3 17 false,og 19 (.callf 51 [(t 18)]) 17 false,mg 20 0 17 false,og 21 (b .neq (t 19) (t 20)) 17 false,o 22 (.pick (t 17) (.c (.d (.b true))) (t 21))])
 (.cond (t 22)
 (.seq (.reg [o 2 (.mv (k (-1)))])
 .ret)
 .skip))
 (.seq (.reg [m 23 3,m 2 23])
 .ret)))),false⟩
def a385 : AFn := ⟨37,[.cell 2 true 8],
 (.seq (.reg [o 1 (.box 36 (t 0)),o 2 (.alloc 36 y2)])
 (.seq (.reg [o 5 (.fadd 6 (t 1)),l 6 5,o 7 (.clone 166 111 16 184 true (t 6)),o 8 (.fadd 6 (t 1)),u (.store 1 (t 8) (t 7))])
 (.seq (.seq (.reg [o 9 (.fadd 6 (t 1)),l 10 9,o 11 (.len 1 (t 10)),o 12 (.mv (k 0))])
 (.blk 0 (.loop (.seq (.reg [o 13 (b .lss (t 12) (t 11))])
 (.seq (.cond (t 13)
 .skip
 (.exit 0))
 (.seq (.blk 1 (.seq (.reg [m 14 12,m 3 14])
 (.seq (.reg [o 15 (.fadd 6 (t 1)),l 16 15,m 17 3,o 18 (.iaS 16 (t 16) (t 17)),m 4 18])
 (.dreg 0 [⟨m 21 4,2,false,[],none⟩,⟨o 22 (.nilchk (t 21)),3,false,[],none⟩,⟨o 23 (.fadd 6 (t 22)),4,false,[],none⟩,⟨l 24 23,5,false,[],none⟩,⟨o 25 (.clone 167 3 1 8 false (t 24)),6,true,[],none⟩,⟨m 26 4,7,false,[],none⟩,⟨o 27 (.nilchk (t 26)),8,false,[],none⟩,⟨o 28 (.fadd 12 (t 27)),9,false,[],none⟩,⟨o 29 (.load true 4 (t 28)),10,false,[],none⟩,⟨o 30 (.callf 168 [(t 29)]),11,true,[],none⟩,⟨m 19 4,0,false,[],none⟩,⟨o 31 (.nilchk (t 19)),12,false,[11,6],none⟩,⟨o 32 (.fadd 6 (t 31)),13,false,[11,6],none⟩,⟨u (.store 1 (t 32) (t 25)),14,true,[],none⟩,⟨m 20 4,1,false,[],none⟩,⟨o 33 (.nilchk (t 20)),15,false,[14,11,6],none⟩,⟨o 34 (.fadd 12 (t 33)),16,false,[14,11,6],none⟩,⟨u (.store 4 (t 34) (t 30)),17,true,[],none⟩]))))
 (.reg [o 35 (b .add (t 12) (k 1)),m 12 35])))))))
 (.seq (.reg [o 36 (.load true 8 (t 1)),u (.store 8 (t 2) (t 36))])
 .ret)))),false⟩
def a386 : AFn := ⟨14,[.tmp 4],
 (.seq (.reg [o 2 (.box 36 (t 0)),o 4 (.mv (.c (.d (.b false))))])
 (.seq (.reg [m 5 1,o 6 (b .geq (t 5) (k 0)),m 7 6,mg 8 1 7 true,og 9 (.fadd 6 (t 2)) 7 true,lg 10 9 7 true,og 11 (.len 1 (t 10)) 7 true,og 12 (b .lss (t 8) (t 11)) 7 true,o 13 (.pick (t 7) (t 12) (.c (.d (.b false)))),m 4 13])
 .ret)),false⟩
def a388 : AFn := ⟨105,[.cell 2 true 9,.tmp 3,.tmp 4],
 (.seq (.reg [o 2 (.alloc 58 y5),o 3 (.mv (.c .nilsl)),o 4 (.mv (k 0))])
 (.seq (.reg [m 9 0,o 10 (.callf 434 [(t 9)]),m 8 10,o 11 (.extr (t 8) 0),o 12 (.extr (t 8) 1),o 13 (.extr (t 8) 2),m 5 11,m 3 12,m 4 13])
 (.seq (.seq (.reg [m 14 4,o 15 (b .neq (t 14) (k 0)),m 16 15,mg 17 5 16 false,og 18 (b .lss (t 17) (k 0)) 16 false,o 19 (.pick (t 16) (.c (.d (.b true))) (t 18)),m 20 19,mg 21 5 20 false,og 22 (b .gtr (t 21) (k 5)) 20 false,o 23 (.pick (t 20) (.c (.d (.b true))) (t 22))])
 (.cond (t 23)
 (.seq (.reg [o 24 (.load true 9 (t 2)),u (.store 9 (t 2) (t 24)),o 3 (.mv (.c .nilsl)),o 4 (.mv (k 30))])
 .ret)
 .skip))
 (.seq (.reg [m 25 5,o 26 (.cvi .u8 (t 25)),o 27 (.fadd 0 (t 2)),u (.store 1 (t 27) (t 26))])
 (.seq (.reg [o 28 (.fadd 0 (t 2)),l 29 28,o 30 (.callf 296 [(t 29)]),m 6 30])
 (.seq (.seq (.reg [m 31 6,o 32 (b .and (t 31) (.c (.d (.i .u8 4)))),o 33 (b .neq (t 32) (.c (.d (.i .u8 0)))),m 34 33,mg 35 4 34 true,og 36 (b .eql (t 35) (k 0)) 34 true,o 37 (.pick (t 34) (t 36) (.c (.d (.b false))))])
 (.cond (t 37)
 (.reg [m 39 3,o 40 (.callf 435 [(t 39),(k 400)]),m 38 40,o 41 (.extr (t 38) 0),o 42 (.extr (t 38) 1),o 43 (.extr (t 38) 2),o 44 (.fadd 1 (t 2)),u (.store 1 (t 44) (t 41)),m 3 42,m 4 43])
 .skip))
 (.seq (.seq (.reg [m 45 6,o 46 (b .and (t 45) (.c (.d (.i .u8 8)))),o 47 (b .neq (t 46) (.c (.d (.i .u8 0)))),m 48 47,mg 49 4 48 true,og 50 (b .eql (t 49) (k 0)) 48 true,o 51 (.pick (t 48) (t 50) (.c (.d (.b false))))])
 (.cond (t 51)
 (.reg [m 53 3,o 54 (.callf 434 [(t 53)]),m 52 54,o 55 (.extr (t 52) 0),o 56 (.extr (t 52) 1),o 57 (.extr (t 52) 2),o 58 (.fadd 2 (t 2)),u (.store 1 (t 58) (t 55)),m 3 56,m 4 57])
 .skip))
 (.seq (.seq (.reg [m 59 6,o 60 (b .and (t 59) (.c (.d (.i .u8 16)))),o 61 (b .neq (t 60) (.c (.d (.i .u8 0)))),m 62 61,mg 63 4 62 true,og 64 (b .eql (t 63) (k 0)) 62 true,o 65 (.pick (t 62) (t 64) (.c (.d (.b false))))])
 (.cond (t 65)
 (.reg [m 67 3,o 68 (.callf 436 [(t 67)]),m 66 68,o 69 (.extr (t 66) 0),o 70 (.extr (t 66) 1),o 71 (.extr (t 66) 2),o 72 (.fadd 3 (t 2)),u (.store 4 (t 72) (t 69)),m 3 70,m 4 71])
 .skip))
 (.seq (.seq (.reg [m 73 6,o 74 (b .and (t 73) (.c (.d (.i .u8 1)))),o 75 (b .neq (t 74) (.c (.d (.i .u8 0)))),m 76 75,mg 77 4 76 true,og 78 (b .eql (t 77) (k 0)) 76 true,o 79 (.pick (t 76) (t 78) (.c (.d (.b false))))])
 (.cond (t 79)
 (.reg [m 81 3,o 82 (.callf 437 [(t 81)]),m 80 82,o 83 (.extr (t 80) 0),o 84 (.extr (t 80) 1),o 85 (.extr (t 80) 2),o 86 (.fadd 7 (t 2)),u (.store 1 (t 86) (t 83)),m 3 84,m 4 85])
 .skip))
 (.seq (.seq (.reg [m 87 6,o 88 (b .and (t 87) (.c (.d (.i .u8 2)))),o 89 (b .neq (t 88) (.c (.d (.i .u8 0)))),m 90 89,mg 91 4 90 true,og 92 (b .eql (t 91) (k 0)) 90 true,o 93 (.pick (t 90) (t 92) (.c (.d (.b false))))])
 (.cond (t 93)
 (.seq (.reg [o 7 (.mv (k 0))])
 (.seq (.reg [m 95 3,o 96 (.callf 434 [(t 95)]),m 94 96,o 97 (.extr (t 94) 0),o 98 (.extr (t 94) 1),o 99 (.extr (t 94) 2),m 7 97,m 3 98,m 4 99])
 (.reg [m 100 7,o 101 (.fadd 8 (t 2)),u (.store 1 (t 101) (t 100))])))
 .skip))
 (.seq (.reg [o 102 (.load true 9 (t 2)),m 103 3,m 104 4,u (.store 9 (t 2) (t 102)),m 3 103,m 4 104])
 .ret))))))))))),false⟩
def a389 : AFn := ⟨18,[],
 (.seq (.reg [o 2 (.box 458 (t 0))])
 (.seq (.reg [o 7 (.mkfn (.func 438) [] [(t 2)]),m 4 7])
 (.seq (.reg [m 8 1,o 9 (.len 1 (t 8)),o 10 (.mv (k 0))])
 (.blk 0 (.loop (.seq (.reg [o 11 (b .lss (t 10) (t 9))])
 (.seq (.cond (t 11)
 .skip
 (.exit 0))
 (.seq (.blk 1 (.seq (.reg [o 12 (.iaS 3 (t 8) (t 10)),o 13 (.load true 3 (t 12)),o 6 (.alloc 467 [(.d .nilp),(.d (.i .i64 0)),(.d (.i .i64 0))]),u (.store 3 (t 6) (t 13))])
 (.reg [m 14 4,o 15 (.load true 3 (t 6)),o 16 (.callv (t 14) [(t 15)])])))
 (.reg [o 17 (b .add (t 10) (k 1)),m 10 17]))))))))),false⟩
def a390 : AFn := ⟨49,[.tmp 6],
 (.seq (.reg [o 6 (.mv (k 0))])
 (.seq (.reg [m 11 0,o 12 (.nilchk (t 11)),o 13 (.fadd 0 (t 12)),l 14 13,o 15 (.callf 434 [(t 14)]),m 10 15,o 16 (.extr (t 10) 0),o 17 (.extr (t 10) 1),o 18 (.extr (t 10) 2),m 7 16,m 8 17,m 9 18])
 (.seq (.seq (.reg [m 19 0,m 20 0,o 21 (.nilchk (t 20)),o 22 (.fadd 1 (t 21)),l 23 22,m 24 23,mg 25 9 24 false,og 26 (b .neq (t 25) (k 0)) 24 false,o 27 (.pick (t 24) (.c (.d (.b true))) (t 26)),m 28 27,mg 29 7 28 false,mg 30 1 28 false,og 31 (b .lss (t 29) (t 30)) 28 false,o 32 (.pick (t 28) (.c (.d (.b true))) (t 31)),m 33 32,mg 34 7 33 false,mg 35 2 33 false,og 36 (b .gtr (t 34) (t 35)) 33 false,o 37 (.pick (t 33) (.c (.d (.b true))) (t 36)),o 38 (.nilchk (t 19)),o 39 (.fadd 1 (t 38)),u (.store 1 (t 39) (t 37))])
 (.seq (.reg [m 40 0,o 41 (.nilchk (t 40)),o 42 (.fadd 1 (t 41)),l 43 42])
 (.cond (t 43)
 (.seq (.reg [o 6 (.mv (k 0))])
 .ret)
 .skip)))
 (.seq (.reg [m 44 0,m 45 8,o 46 (.nilchk (t 44)),o 47 (.fadd 0 (t 46)),u (.store 1 (t 47) (t 45))])
 (.seq (.reg [m 48 7,m 6 48])
 .ret))))),false⟩
def a395 : AFn := ⟨9,[.tmp 4],
 (.seq (.reg [o 4 (.mv (.c (.d (.b false))))])
 (.seq (.reg [m 5 0,m 6 1,o 7 (.callf 440 [(t 5),(t 6)]),o 8 (b .geq (t 7) (k 0)),m 4 8])
 .ret)),false⟩
def a396 : AFn := ⟨19,[.tmp 2],
 (.seq (.reg [o 1 (.box 467 (t 0)),o 2 (.mv (.c (.d (.b false))))])
 (.seq (.dreg 0 [⟨o 3 (.fadd 0 (t 1)),0,false,[],none⟩,⟨l 4 3,1,false,[],none⟩,⟨o 5 (.nilchk (t 4)),2,false,[],none⟩,⟨l 6 5,3,false,[],none⟩,⟨o 7 (.fadd 1 (t 1)),4,false,[],none⟩,⟨l 8 7,5,false,[],none⟩,⟨o 9 (b .lss (t 6) (t 8)),6,false,[],none⟩,⟨m 10 9,7,false,[],none⟩,⟨og 11 (.fadd 0 (t 1)) 10 false,8,false,[],none⟩,⟨lg 12 11 10 false,9,false,[],none⟩,⟨og 13 (.nilchk (t 12)) 10 false,10,false,[],none⟩,⟨lg 14 13 10 false,11,false,[],none⟩,⟨og 15 (.fadd 2 (t 1)) 10 false,12,false,[],none⟩,⟨lg 16 15 10 false,13,false,[],none⟩,⟨og 17 (b .gtr (t 14) (t 16)) 10 false,14,false,[],none⟩,⟨o 18 (.pick (t 10) (.c (.d (.b true))) (t 17)),15,false,[],none⟩,⟨m 2 18,16,false,[],none⟩])
 .ret)),false⟩
def a397 : AFn := ⟨9,[.tmp 2],
 (.seq (.reg [o 2 (.mv (.c (.d (.b false))))])
 (.seq (.reg [m 3 0,o 4 (b .lss (t 3) (k 0)),m 5 4,mg 6 0 5 false,og 7 (b .geq (t 6) (k 4800)) 5 false,o 8 (.pick (t 5) (.c (.d (.b true))) (t 7)),m 2 8])
 .ret)),false⟩
def a398 : AFn := ⟨22,[.tmp 4],
 (.seq (.reg [o 4 (.mv (.c .nilsl))])
 (.seq (.dreg 1 [⟨m 5 1,0,false,[],none⟩,⟨o 6 (.nilchk (t 5)),1,false,[],none⟩,⟨o 7 (.fadd 0 (t 6)),2,false,[],none⟩,⟨o 8 (.build [(.d .nilp),(.d (.i .i64 0)),(.d (.i .i64 0))] [(0,1,(t 7)),(1,1,(k 0)),(2,1,(k 2))]),3,false,[],none⟩,⟨m 9 0,4,false,[],none⟩,⟨o 10 (.nilchk (t 9)),5,false,[],none⟩,⟨o 11 (.fadd 3 (t 10)),6,false,[],none⟩,⟨o 12 (.build [(.d .nilp),(.d (.i .i64 0)),(.d (.i .i64 0))] [(0,1,(t 11)),(1,1,(k 0)),(2,1,(k 12))]),7,false,[],none⟩,⟨m 13 0,8,false,[],none⟩,⟨o 14 (.nilchk (t 13)),9,false,[],none⟩,⟨o 15 (.fadd 4 (t 14)),10,false,[],none⟩,⟨o 16 (.build [(.d .nilp),(.d (.i .i64 0)),(.d (.i .i64 0))] [(0,1,(t 15)),(1,1,(k (-1))),(2,1,(k 4799))]),11,false,[],none⟩,⟨m 17 0,12,false,[],none⟩,⟨o 18 (.nilchk (t 17)),13,false,[],none⟩,⟨o 19 (.fadd 5 (t 18)),14,false,[],none⟩,⟨o 20 (.build [(.d .nilp),(.d (.i .i64 0)),(.d (.i .i64 0))] [(0,1,(t 19)),(1,1,(k (-1))),(2,1,(k 999999))]),15,false,[],none⟩,⟨o 21 (.bsl 467 3 4 [(.d .nilp),(.d (.i .i64 0)),(.d (.i .i64 0))] [(0,3,(t 8)),(3,3,(t 12)),(6,3,(t 16)),(9,3,(t 20))]),16,false,[],(some 0)⟩,⟨m 4 21,17,false,[],none⟩])
 .ret)),false⟩
def a399 : AFn := ⟨22,[.tmp 4],
 (.seq (.reg [o 4 (.mv (.c .nilsl))])
 (.seq (.dreg 1 [⟨m 5 0,0,false,[],none⟩,⟨o 6 (.nilchk (t 5)),1,false,[],none⟩,⟨o 7 (.fadd 7 (t 6)),2,false,[],none⟩,⟨o 8 (.build [(.d .nilp),(.d (.i .i64 0)),(.d (.i .i64 0))] [(0,1,(t 7)),(1,1,(k 0)),(2,1,(k 40))]),3,false,[],none⟩,⟨m 9 0,4,false,[],none⟩,⟨o 10 (.nilchk (t 9)),5,false,[],none⟩,⟨o 11 (.fadd 8 (t 10)),6,false,[],none⟩,⟨o 12 (.build [(.d .nilp),(.d (.i .i64 0)),(.d (.i .i64 0))] [(0,1,(t 11)),(1,1,(k 0)),(2,1,(k 400))]),7,false,[],none⟩,⟨m 13 1,8,false,[],none⟩,⟨o 14 (.nilchk (t 13)),9,false,[],none⟩,⟨o 15 (.fadd 1 (t 14)),10,false,[],none⟩,⟨o 16 (.build [(.d .nilp),(.d (.i .i64 0)),(.d (.i .i64 0))] [(0,1,(t 15)),(1,1,(k 0)),(2,1,(k 6))]),11,false,[],none⟩,⟨m 17 0,12,false,[],none⟩,⟨o 18 (.nilchk (t 17)),13,false,[],none⟩,⟨o 19 (.fadd 10 (t 18)),14,false,[],none⟩,⟨o 20 (.build [(.d .nilp),(.d (.i .i64 0)),(.d (.i .i64 0))] [(0,1,(t 19)),(1,1,(k 0)),(2,1,(k 10))]),15,false,[],none⟩,⟨o 21 (.bsl 467 3 4 [(.d .nilp),(.d (.i .i64 0)),(.d (.i .i64 0))] [(0,3,(t 8)),(3,3,(t 12)),(6,3,(t 16)),(9,3,(t 20))]),16,false,[],(some 0)⟩,⟨m 4 21,17,false,[],none⟩])
 .ret)),false⟩
def a400 : AFn := ⟨9,[.tmp 4],
 (.seq (.reg [o 4 (.mv (.c (.d (.b false))))])
 (.seq (.reg [m 5 0,m 6 1,o 7 (.callf 441 [(t 5),(t 6)]),o 8 (b .geq (t 7) (k 0)),m 4 8])
 .ret)),false⟩
def a401 : AFn := ⟨10,[.tmp 2],
 (.seq (.reg [o 1 (.box 382 (t 0)),o 2 (.mv (.c (.d (.s []))))])
 (.seq (.reg [o 4 (.load true 2 (t 1)),o 5 (.callf 402 [(t 4)]),m 3 5])
 (.seq (.seq (.reg [m 6 3,o 7 (.len 0 (t 6)),o 8 (b .gtr (t 7) (k 400))])
 (.cond (t 8)
 (.seq (.reg [o 2 (.mv (.c (.d (.s []))))])
 .ret)
 .skip))
 (.seq (.reg [m 9 3,m 2 9])
 .ret)))),false⟩
def a402 : AFn := ⟨35,[.tmp 2],
 (.seq (.reg [o 1 (.box 382 (t 0)),o 2 (.mv (.c (.d (.s []))))])
 (.seq (.seq (.reg [o 6 (.load true 2 (t 1)),o 7 (.callf 442 [(t 6)]),o 8 (.un .not (t 7))])
 (.cond (t 8)
 (.seq (.reg [o 2 (.mv (.c (.d (.s []))))])
 .ret)
 .skip))
 (.seq (.reg [o 3 (.alloc 66 [(.d .nilp),.nilsl])])
 (.seq (.reg [o 9 (.fadd 0 (t 1)),l 10 9,o 11 (.callf 51 [(t 10)]),o 12 (.callf 16 [(t 3),(t 11)])])
 (.seq (.seq (.reg [o 13 (.fadd 1 (t 1)),l 14 13,o 15 (.len 1 (t 14)),o 16 (.mv (k 0))])
 (.blk 0 (.loop (.seq (.reg [o 17 (b .lss (t 16) (t 15))])
 (.seq (.cond (t 17)
 .skip
 (.exit 0))
 (.seq (.blk 1 (.seq (.reg [o 18 (.iaS 2 (t 14) (t 16)),o 19 (.load true 2 (t 18)),o 5 (.alloc 451 y10),u (.store 2 (t 5) (t 19))])
 (.seq (.reg [o 20 (.fadd 0 (t 5)),l 21 20,o 22 (b .add (.c (.d (.s [47]))) (t 21)),o 23 (.callf 16 [(t 3),(t 22)])])
 (.seq (.reg [o 24 (.fadd 1 (t 5)),l 25 24,o 26 (b .neq (t 25) (k (-1)))])
 (.cond (t 26)
 (.reg [o 27 (.fadd 1 (t 5)),l 28 27,o 29 (.callf 51 [(t 28)]),o 30 (b .add (.c (.d (.s [91]))) (t 29)),o 31 (b .add (t 30) (.c (.d (.s [93])))),o 32 (.callf 16 [(t 3),(t 31)])])
 .skip)))))
 (.reg [o 33 (b .add (t 16) (k 1)),m 16 33])))))))
 (.seq (.reg [o 34 (.callf 17 [(t 3)]),m 2 34])
 .ret)))))),false⟩
def a404 : AFn := ⟨30,[.tmp 4],
 (.seq (.reg [o 4 (.mv (k 0))])
 (.seq (.blk 0 (.seq (.reg [m 6 0,o 7 (.callf 370 [(t 6)]),m 5 7])
 (.cond (t 5)
 (.seq (.reg [o 4 (.mv (k 1))])
 .ret)
 (.seq (.reg [m 9 1,o 10 (b .lss (t 9) (k 0)),m 11 10,mg 12 1 11 false,mg 13 0 11 false,og 14 (.nilchk (t 13)) 11 false,og 15 (.fadd 1 (t 14)) 11 false,lg 16 15 11 false,og 17 (.len 1 (t 16)) 11 false,og 18 (b .sub (k 10000) (t 17)) 11 false,og 19 (b .gtr (t 12) (t 18)) 11 false,o 20 (.pick (t 11) (.c (.d (.b true))) (t 19)),m 8 20])
 (.cond (t 8)
 (.seq (.reg [o 4 (.mv (k 2))])
 .ret)
 .skip)))))
 (.seq (.reg [m 21 0,m 22 0,o 23 (.nilchk (t 22)),o 24 (.fadd 1 (t 23)),l 25 24,m 26 1,o 27 (.appz 436 2 48 y12 (t 25) (t 26)),o 28 (.nilchk (t 21)),o 29 (.fadd 1 (t 28)),u (.store 1 (t 29) (t 27))])
 (.seq (.reg [o 4 (.mv (k 0))])
 .ret)))),false⟩
def a405 : AFn := ⟨10,[.tmp 2],
 (.seq (.reg [o 2 (.mv (k 0))])
 (.seq (.seq (.reg [m 3 0,o 4 (.callf 370 [(t 3)])])
 (.cond (t 4)
 (.seq (.reg [o 2 (.mv (k 0))])
 .ret)
 .skip))
 (.seq (.reg [m 5 0,o 6 (.nilchk (t 5)),o 7 (.fadd 1 (t 6)),l 8 7,o 9 (.len 1 (t 8)),m 2 9])
 .ret))),false⟩
def a406 : AFn := ⟨21,[.tmp 6],
 (.seq (.reg [o 6 (.mv (k 0))])
 (.seq (.seq (.reg [m 9 0,o 10 (.callf 234 [(t 9)]),o 11 (.bin .eql .ptr (t 10) (.c (.d .nilp)))])
 (.cond (t 11)
 (.seq (.reg [o 6 (.mv (k 1))])
 .ret)
 .skip))
 (.seq (.reg [m 13 0,o 14 (.callf 234 [(t 13)]),m 15 1,m 16 2,o 17 (.callf 408 [(t 14),(t 15),(t 16)]),m 12 17,o 18 (.extr (t 12) 0),o 19 (.extr (t 12) 1),m 7 18,m 8 19])
 (.seq (.reg [m 20 8,m 6 20])
 .ret)))),false⟩
def a407 : AFn := ⟨10,[.tmp 2],
 (.seq (.reg [o 2 (.mv (.c .nilsl))])
 (.seq (.seq (.reg [m 3 0,o 4 (.callf 294 [(t 3)])])
 (.cond (t 4)
 (.seq (.reg [o 2 (.mv (.c .nilsl))])
 .ret)
 .skip))
 (.seq (.reg [m 5 0,o 6 (.nilchk (t 5)),o 7 (.fadd 2 (t 6)),l 8 7,o 9 (.clone 167 3 1 8 false (t 8)),m 2 9])
 .ret))),false⟩
def a408 : AFn := ⟨42,[.tmp 6,.tmp 7],
 (.seq (.reg [o 6 (.mv (k 0)),o 7 (.mv (k 0))])
 (.seq (.seq (.reg [m 13 0,m 14 1,o 15 (.callf 350 [(t 13),(t 14)]),m 8 15])
 (.seq (.reg [m 16 8,o 17 (b .neq (t 16) (k 0))])
 (.cond (t 17)
 (.seq (.reg [m 18 8,o 6 (.mv (k 0)),m 7 18])
 .ret)
 .skip)))
 (.seq (.seq (.reg [m 19 2,o 20 (.len 1 (t 19)),o 21 (.mv (k 0))])
 (.blk 0 (.loop (.seq (.reg [o 22 (b .lss (t 21) (t 20))])
 (.seq (.cond (t 22)
 .skip
 (.exit 0))
 (.seq (.blk 1 (.seq (.reg [m 23 21,o 24 (.iaS 2 (t 19) (t 21)),o 25 (.load true 2 (t 24)),o 10 (.alloc 477 y6),m 9 23,u (.store 2 (t 10) (t 25))])
 (.seq (.reg [m 27 0,o 28 (.fadd 0 (t 10)),l 29 28,o 30 (.fadd 1 (t 10)),l 31 30,o 32 (.callf 443 [(t 27),(t 29),(t 31)]),m 26 32,o 33 (.extr (t 26) 0),o 34 (.extr (t 26) 1),m 11 33,m 12 34])
 (.seq (.reg [m 35 12,o 36 (b .neq (t 35) (k 0))])
 (.cond (t 36)
 (.seq (.reg [m 37 9,m 38 12,m 6 37,m 7 38])
 .ret)
 .skip)))))
 (.reg [o 39 (b .add (t 21) (k 1)),m 21 39])))))))
 (.seq (.reg [m 40 2,o 41 (.len 1 (t 40)),m 6 41,o 7 (.mv (k 0))])
 .ret)))),false⟩
def a409 : AFn := ⟨17,[.tmp 4,.tmp 5],
 (.seq (.reg [o 4 (.mv (k 0)),o 5 (.mv (.c (.d (.b false))))])
 (.seq (.seq (.reg [m 6 0,m 7 1,o 8 (.callf 444 [(t 6),(t 7)]),o 9 (.un .not (t 8))])
 (.cond (t 9)
 (.seq (.reg [o 4 (.mv (k 0)),o 5 (.mv (.c (.d (.b false))))])
 .ret)
 .skip))
 (.seq (.reg [m 10 0,o 11 (.nilchk (t 10)),o 12 (.fadd 1 (t 11)),l 13 12,m 14 1,o 15 (.iaS 1 (t 13) (t 14)),l 16 15,m 4 16,o 5 (.mv (.c (.d (.b true))))])
 .ret))),false⟩
def a410 : AFn := ⟨5,[.tmp 2],
 (.seq (.reg [o 2 (.mv (k 0))])
 (.seq (.reg [m 3 0,o 4 (b .mul (k 2) (t 3)),m 2 4])
 .ret)),false⟩
def a411 : AFn := ⟨6,[.tmp 2],
 (.seq (.reg [o 2 (.mv (k 0))])
 (.seq (.reg [m 3 0,o 4 (b .mul (k 2) (t 3)),o 5 (b .add (t 4) (k 1)),m 2 5])
 .ret)),false⟩
def a412 : AFn := ⟨16,[],
 (.seq (.reg [l 5 1,o 6 (.len 1 (t 5)),o 7 (.mv (k 0))])
 (.blk 0 (.loop (.seq (.reg [o 8 (b .lss (t 7) (t 6))])
 (.seq (.cond (t 8)
 .skip
 (.exit 0))
 (.seq (.blk 1 (.seq (.reg [o 9 (.iaS 1 (t 5) (t 7)),l 10 9,m 4 10])
 (.seq (.reg [m 11 0,m 12 4,o 13 (.callv (t 11) [(t 12)]),o 14 (.un .not (t 13))])
 (.cond (t 14)
 .ret
 .skip))))
 (.reg [o 15 (b .add (t 7) (k 1)),m 7 15]))))))),false⟩
def a413 : AFn := ⟨13,[.tmp 4],
 (.seq (.reg [o 4 (.mv (.c (.d (.i .u32 0))))])
 (.seq (.reg [m 5 0,o 6 (.cvi .u8 (t 5)),m 7 1,o 8 (b .xor (t 6) (t 7)),o 9 (.callf 445 [(t 8)]),m 10 0,o 11 (b .shr (t 10) (.c (.d (.i .u64 8)))),o 12 (b .xor (t 9) (t 11)),m 4 12])
 .ret)),false⟩
def a414 : AFn := ⟨13,[.tmp 4],
 (.seq (.reg [o 2 (.box 64 (t 0)),o 4 (.mv (.c .nilsl))])
 (.seq (.seq (.reg [m 6 1])
 (.blk 0 (.rfun (t 6) [7] (.reg [m 5 7]) (.blk 1 (.reg [l 8 2,m 9 5,o 10 (.bsl 5 1 1 [(.d (.i .u8 0))] [(0,1,(t 9))]),o 11 (.app 5 1 1 false (t 8) (t 10)),u (.store 1 (t 2) (t 11))])))))
 (.seq (.reg [l 12 2,m 4 12])
 .ret))),true⟩
def a415 : AFn := ⟨4,[.tmp 2],
 (.seq (.reg [o 1 (.box 2 (t 0)),o 2 (.mv (.c (.d .nilf)))])
 (.seq (.reg [o 3 (.mkfn (.func 446) [] [(t 1)]),m 2 3])
 .ret)),false⟩
def a416 : AFn := ⟨9,[],
 (.seq (.reg [o 2 (.box 467 (t 0))])
 (.dreg 0 [⟨l 3 1,0,false,[],none⟩,⟨o 4 (.fadd 0 (t 2)),1,false,[],none⟩,⟨l 5 4,2,false,[],none⟩,⟨o 6 (.nilchk (t 5)),3,false,[],none⟩,⟨l 7 6,4,false,[],none⟩,⟨o 8 (.callf 361 [(t 3),(t 7)]),5,true,[],none⟩,⟨u (.store 1 (t 1) (t 8)),6,true,[],none⟩])),false⟩
def a417 : AFn := ⟨27,[.tmp 4],
 (.seq (.reg [o 4 (.mv (.c .nilsl))])
 (.seq (.seq (.reg [m 5 1,o 6 (b .lss (t 5) (k 0))])
 (.cond (t 6)
 (.reg [o 7 (.mkif 9 (.c (.d (.s [99,97,110,110,111,116,32,98,101,32,110,101,103,97,116,105,118,101])))),u (.panic (t 7))])
 .skip))
 (.seq (.seq (.reg [m 8 1,m 9 0,o 10 (.cap (t 9)),m 11 0,o 12 (.len 1 (t 11)),o 13 (b .sub (t 10) (t 12)),o 14 (b .sub (t 8) (t 13)),m 1 14])
 (.seq (.reg [m 15 1,o 16 (b .gtr (t 15) (k 0))])
 (.cond (t 16)
 (.reg [m 17 0,m 18 0,o 19 (.cap (t 18)),o 20 (.slSl 1 (t 17) none (some (t 19)) none),m 21 1,o 22 (.appz 5 1 1 [(.d (.i .u8 0))] (t 20) (t 21)),m 23 0,o 24 (.len 1 (t 23)),o 25 (.slSl 1 (t 22) none (some (t 24)) none),m 0 25])
 .skip)))
 (.seq (.reg [m 26 0,m 4 26])
 .ret)))),false⟩
def a418 : AFn := ⟨8,[.tmp 4],
 (.seq (.reg [o 4 (.mv (k 0))])
 (.seq (.reg [m 5 0,m 6 1,o 7 (.callf 448 [(t 5),(t 6),(.c (.d (.b true)))]),m 4 7])
 .ret)),false⟩
def a419 : AFn := ⟨25,[.tmp 2],
 (.seq (.reg [o 1 (.box 490 (t 0)),o 2 (.mv (.c (.d .nilf)))])
 (.seq (.reg [o 4 (.mkfn (.func 449) [] [(t 1)]),o 5 (.build [(.d (.i .i64 0)),(.d .nilf)] [(0,1,(k 2)),(1,1,(t 4))]),o 6 (.load true 9 (t 1)),o 7 (.mkfn (.func 450) [(t 6)] []),o 8 (.build [(.d (.i .i64 0)),(.d .nilf)] [(0,1,(k 24)),(1,1,(t 7))]),o 9 (.load true 9 (t 1)),o 10 (.mkfn (.func 451) [(t 9)] []),o 11 (.build [(.d (.i .i64 0)),(.d .nilf)] [(0,1,(k 20)),(1,1,(t 10))]),o 12 (.load true 9 (t 1)),o 13 (.mkfn (.func 452) [(t 12)] []),o 14 (.build [(.d (.i .i64 0)),(.d .nilf)] [(0,1,(k 23)),(1,1,(t 13))]),o 15 (.load true 9 (t 1)),o 16 (.mkfn (.func 453) [(t 15)] []),o 17 (.build [(.d (.i .i64 0)),(.d .nilf)] [(0,1,(k 21)),(1,1,(t 16))]),o 18 (.mkfn (.func 454) [] [(t 1)]),o 19 (.build [(.d (.i .i64 0)),(.d .nilf)] [(0,1,(k 22)),(1,1,(t 18))]),o 20 (.load true 9 (t 1)),o 21 (.mkfn (.func 456) [(t 20)] []),o 22 (.build [(.d (.i .i64 0)),(.d .nilf)] [(0,1,(k 24)),(1,1,(t 21))]),o 23 (.bsl 518 2 7 [(.d (.i .i64 0)),(.d .nilf)] [(0,2,(t 5)),(2,2,(t 8)),(4,2,(t 11)),(6,2,(t 14)),(8,2,(t 17)),(10,2,(t 19)),(12,2,(t 22))]),o 3 (.alloc 520 [.nilsl]),u (.store 1 (t 3) (t 23))])
 (.seq (.reg [o 24 (.mkfn (.func 457) [] [(t 3)]),m 2 24])
 .ret))),true⟩
def a420 : AFn := ⟨32,[.tmp 6],
 (.seq (.reg [o 6 (.mv (k 0))])
 (.seq (.reg [o 11 (.fadd 6 (t 1)),l 12 11,l 13 2,l 14 3,m 15 0,o 16 (.callf 421 [(t 12),(t 13),(t 14),(t 15)]),m 10 16,o 17 (.extr (t 10) 0),o 18 (.extr (t 10) 1),o 19 (.extr (t 10) 2),m 7 17,m 8 18,m 9 19])
 (.seq (.blk 0 (.seq (.reg [m 21 9,o 22 (.un .not (t 21)),m 20 22])
 (.cond (t 20)
 (.seq (.reg [u (.store 1 (t 4) (k 21))])
 (.seq (.reg [o 6 (.mv (k 0))])
 .ret))
 (.seq (.reg [m 24 7,o 25 (b .geq (t 24) (k 0)),m 23 25])
 (.cond (t 23)
 (.seq (.reg [o 26 (.fadd 6 (t 1)),l 27 26,o 28 (.len 1 (t 27)),m 29 7,o 30 (b .add (t 28) (t 29)),m 6 30])
 .ret)
 .skip)))))
 (.seq (.reg [m 31 8,m 6 31])
 .ret)))),false⟩
def a421 : AFn := ⟨20,[.tmp 8,.tmp 9,.tmp 10],
 (.seq (.reg [o 8 (.mv (k 0)),o 9 (.mv (k 0)),o 10 (.mv (.c (.d (.b false))))])
 (.seq (.reg [m 11 0,m 12 1,m 13 2,o 14 (.build y8 [(5,1,(t 11)),(6,1,(t 12)),(8,1,(t 13))]),m 15 3,o 16 (.callf 458 [(t 14),(t 15)]),o 17 (.extr (t 16) 0),o 18 (.extr (t 16) 1),o 19 (.extr (t 16) 2),m 8 17,m 9 18,m 10 19])
 .ret)),false⟩
def a422 : AFn := ⟨18,[.tmp 6],
 (.seq (.reg [o 3 (.box 36 (t 0)),o 6 (.mv (.c (.d (.s []))))])
 (.seq (.seq (.reg [m 7 2,o 8 (b .lss (t 7) (k 0))])
 (.cond (t 8)
 (.seq (.reg [m 9 1,o 10 (.build y9 [(0,1,(t 9))]),o 11 (.callf 402 [(t 10)]),m 6 11])
 .ret)
 .skip))
 (.seq (.reg [o 12 (.fadd 6 (t 3)),l 13 12,m 14 2,o 15 (.iaS 16 (t 13) (t 14)),o 16 (.fadd 0 (t 15)),l 17 16,m 6 17])
 .ret))),false⟩
def a424 : AFn := ⟨36,[.tmp 2],
 (.seq (.reg [o 2 (.mv (.c .nilsl))])
 (.seq (.reg [o 3 (.mv (k 0))])
 (.seq (.seq (.reg [m 9 0,o 10 (.len 1 (t 9)),o 11 (.mv (k 0))])
 (.blk 0 (.loop (.seq (.reg [o 12 (b .lss (t 11) (t 10))])
 (.seq (.cond (t 12)
 .skip
 (.exit 0))
 (.seq (.blk 1 (.seq (.reg [o 13 (.iaS 1 (t 9) (t 11)),l 14 13,m 5 14])
 (.seq (.reg [m 15 3,m 16 5,o 17 (.len 1 (t 16)),o 18 (b .add (t 15) (t 17)),m 3 18])
 (.seq (.reg [m 19 3,o 20 (b .lss (t 19) (k 0))])
 (.cond (t 20)
 (.reg [o 21 (.mkif 9 (.c (.d (.s [108,101,110,32,111,117,116,32,111,102,32,114,97,110,103,101])))),u (.panic (t 21))])
 .skip)))))
 (.reg [o 22 (b .add (t 11) (k 1)),m 11 22])))))))
 (.seq (.reg [m 23 3,o 24 (.callf 459 [(.c .nilsl),(t 23)]),m 6 24])
 (.seq (.seq (.reg [m 25 0,o 26 (.len 1 (t 25)),o 27 (.mv (k 0))])
 (.blk 2 (.loop (.seq (.reg [o 28 (b .lss (t 27) (t 26))])
 (.seq (.cond (t 28)
 .skip
 (.exit 2))
 (.seq (.blk 3 (.seq (.reg [o 29 (.iaS 1 (t 25) (t 27)),l 30 29,m 8 30])
 (.reg [m 31 6,m 32 8,o 33 (.app 111 16 184 false (t 31) (t 32)),m 6 33])))
 (.reg [o 34 (b .add (t 27) (k 1)),m 27 34])))))))
 (.seq (.reg [m 35 6,m 2 35])
 .ret)))))),false⟩
def a425 : AFn := ⟨20,[.tmp 2],
 (.seq (.reg [o 1 (.box 36 (t 0)),o 2 (.mv (.c .nilsl))])
 (.seq (.reg [o 3 (.mv (.c .nilsl))])
 (.seq (.seq (.reg [o 5 (.fadd 6 (t 1)),l 6 5,o 7 (.len 1 (t 6)),o 8 (.mv (k 0))])
 (.blk 0 (.loop (.seq (.reg [o 9 (b .lss (t 8) (t 7))])
 (.seq (.cond (t 9)
 .skip
 (.exit 0))
 (.seq (.blk 1 (.seq (.reg [m 10 8,m 4 10])
 (.seq (.reg [o 11 (.load true 8 (t 1)),m 12 4,o 13 (.callf 460 [(t 11),(t 12)])])
 (.cond (t 13)
 (.reg [m 14 3,m 15 4,o 16 (.bsl 3 1 1 [(.d (.i .i64 0))] [(0,1,(t 15))]),o 17 (.app 3 1 8 false (t 14) (t 16)),m 3 17])
 .skip))))
 (.reg [o 18 (b .add (t 8) (k 1)),m 8 18])))))))
 (.seq (.reg [m 19 3,m 2 19])
 .ret)))),false⟩
def a426 : AFn := ⟨46,[.cell 4 true 8,.tmp 5],
 (.seq (.reg [o 2 (.box 36 (t 0)),o 4 (.alloc 36 y2),o 5 (.mv (.c (.d (.b false))))])
 (.seq (.seq (.reg [o 6 (.load true 8 (t 2)),m 7 1,o 8 (.callf 386 [(t 6),(t 7)]),o 9 (.un .not (t 8)),m 10 9,og 11 (.load true 8 (t 2)) 10 false,mg 12 1 10 false,og 13 (.callf 460 [(t 11),(t 12)]) 10 false,og 14 (.un .not (t 13)) 10 false,o 15 (.pick (t 10) (.c (.d (.b true))) (t 14))])
 (.cond (t 15)
 (.seq (.reg [o 16 (.load true 8 (t 2)),o 17 (.callf 385 [(t 16)]),u (.store 8 (t 4) (t 17)),o 5 (.mv (.c (.d (.b false))))])
 .ret)
 .skip))
 (.seq (.reg [o 18 (.load true 8 (t 2)),o 19 (.callf 385 [(t 18)]),u (.store 8 (t 2) (t 19))])
 (.seq (.blk 0 (.seq (.reg [o 24 (.fadd 6 (t 2)),l 25 24,m 26 1,o 27 (.iaS 16 (t 25) (t 26)),o 28 (.fadd 9 (t 27)),l 29 28,o 30 (b .eql (t 29) (.c (.d (.i .u8 3)))),m 23 30])
 (.cond (t 23)
 (.reg [o 31 (.load true 8 (t 2)),m 32 1,o 33 (.callf 461 [(t 31),(t 32)])])
 (.seq (.reg [o 35 (.fadd 6 (t 2)),l 36 35,m 37 1,o 38 (.iaS 16 (t 36) (t 37)),o 39 (.fadd 2 (t 38)),l 40 39,o 41 (b .eql (t 40) (.c (.d (.i .u8 1)))),m 34 41])
 (.cond (t 34)
 (.reg [o 42 (.load true 8 (t 2)),m 43 1,o 44 (.callf 462 [(t 42),(t 43)]),u (.store 8 (t 2) (t 44))])
 (.reg [o 20 (.load true 8 (t 2)),m 21 1,o 22 (.callf 428 [(t 20),(t 21),(.c (.d (.i .u8 1)))])]))))))
 (.seq (.reg [o 45 (.load true 8 (t 2)),u (.store 8 (t 4) (t 45)),o 5 (.mv (.c (.d (.b true))))])
 .ret))))),false⟩
def a428 : AFn := ⟨28,[],
 (.seq (.reg [o 3 (.box 36 (t 0))])
 (.seq (.reg [o 7 (.fadd 6 (t 3)),l 8 7,m 9 1,o 10 (.iaS 16 (t 8) (t 9)),m 6 10])
 (.seq (.reg [m 11 6,m 12 6,m 13 2,o 14 (.nilchk (t 11)),o 15 (.fadd 9 (t 14)),u (.store 1 (t 15) (t 13)),o 16 (.nilchk (t 12)),o 17 (.fadd 11 (t 16)),u (.store 1 (t 17) (k 0))])
 (.seq (.reg [m 18 2,o 19 (b .eql (t 18) (.c (.d (.i .u8 5)))),m 20 19,mg 21 2 20 false,og 22 (b .eql (t 21) (.c (.d (.i .u8 6)))) 20 false,o 23 (.pick (t 20) (.c (.d (.b true))) (t 22))])
 (.cond (t 23)
 (.reg [m 24 6,o 25 (.build y3 []),o 26 (.nilchk (t 24)),o 27 (.fadd 12 (t 26)),u (.store 4 (t 27) (t 25))])
 .skip))))),true⟩
def a429 : AFn := ⟨9,[.tmp 2],
 (.seq (.reg [o 2 (.mv (.c (.d (.b false))))])
 (.seq (.reg [m 3 0,o 4 (b .geq (t 3) (k 0)),m 5 4,mg 6 0 5 true,og 7 (b .leq (t 6) (k 999999)) 5 true,o 8 (.pick (t 5) (t 7) (.c (.d (.b false)))),m 2 8])
 .ret)),false⟩
def a434 : AFn := ⟨52,[.tmp 2,.tmp 3,.tmp 4],
 (.seq (.reg [o 2 (.mv (k 0)),o 3 (.mv (.c .nilsl)),o 4 (.mv (k 0))])
 (.seq (.reg [o 5 (.mv (.c (.d (.i .u64 0))))])
 (.seq (.seq (.reg [m 9 0,m 10 0,o 11 (.len 1 (t 10)),o 12 (.mn [(t 11),(k 10)]),o 13 (.slSl 1 (t 9) none (some (t 12)) none),o 14 (.len 1 (t 13)),o 15 (.mv (k 0))])
 (.blk 0 (.loop (.seq (.reg [o 16 (b .lss (t 15) (t 14))])
 (.seq (.cond (t 16)
 .skip
 (.exit 0))
 (.seq (.blk 1 (.seq (.reg [m 17 15,o 18 (.iaS 1 (t 13) (t 15)),l 19 18,m 6 17,m 7 19])
 (.seq (.reg [m 20 7,o 21 (b .andNot (t 20) (.c (.d (.i .u8 128)))),o 22 (.cvi .u64 (t 21)),m 8 22])
 (.seq (.seq (.reg [m 23 6,o 24 (b .eql (t 23) (k 9)),m 25 24,mg 26 8 25 true,og 27 (b .gtr (t 26) (.c (.d (.i .u64 1)))) 25 true,o 28 (.pick (t 25) (t 27) (.c (.d (.b false)))),m 29 28,mg 30 7 29 false,og 31 (b .eql (t 30) (.c (.d (.i .u8 0)))) 29 false,mg 32 31 29 false,mg 33 6 32 true,og 34 (b .gtr (t 33) (k 0)) 32 true,og 35 (.pick (t 32) (t 34) (.c (.d (.b false)))) 29 false,o 36 (.pick (t 29) (.c (.d (.b true))) (t 35))])
 (.cond (t 36)
 (.seq (.reg [o 2 (.mv (k 0)),o 3 (.mv (.c .nilsl)),o 4 (.mv (k 30))])
 .ret)
 .skip))
 (.seq (.reg [m 37 5,m 38 8,m 39 6,o 40 (b .mul (k 7) (t 39)),o 41 (b .shl (t 38) (t 40)),o 42 (b .or (t 37) (t 41)),m 5 42])
 (.seq (.reg [m 43 7,o 44 (b .lss (t 43) (.c (.d (.i .u8 128))))])
 (.cond (t 44)
 (.seq (.dreg 0 [⟨m 45 5,0,false,[],none⟩,⟨o 46 (.callf 467 [(t 45)]),1,true,[],none⟩,⟨m 47 0,2,false,[],none⟩,⟨m 48 6,3,false,[],none⟩,⟨o 49 (b .add (t 48) (k 1)),4,false,[],none⟩,⟨o 50 (.slSl 1 (t 47) (some (t 49)) none none),5,false,[],none⟩,⟨m 2 46,6,false,[1],none⟩,⟨m 3 50,7,false,[1],none⟩,⟨o 4 (.mv (k 0)),8,false,[1],none⟩])
 .ret)
 .skip)))))))
 (.reg [o 51 (b .add (t 15) (k 1)),m 15 51])))))))
 (.seq (.reg [o 2 (.mv (k 0)),o 3 (.mv (.c .nilsl)),o 4 (.mv (k 30))])
 .ret)))),false⟩
def a435 : AFn := ⟨37,[.tmp 4,.tmp 5,.tmp 6],
 (.seq (.reg [o 4 (.mv (.c (.d (.s [])))),o 5 (.mv (.c .nilsl)),o 6 (.mv (k 0))])
 (.seq (.reg [m 11 0,o 12 (.callf 434 [(t 11)]),m 10 12,o 13 (.extr (t 10) 0),o 14 (.extr (t 10) 1),o 15 (.extr (t 10) 2),m 7 13,m 8 14,m 9 15])
 (.seq (.seq (.reg [m 16 9,o 17 (b .neq (t 16) (k 0)),m 18 17,mg 19 7 18 false,og 20 (b .lss (t 19) (k 0)) 18 false,o 21 (.pick (t 18) (.c (.d (.b true))) (t 20)),m 22 21,mg 23 7 22 false,mg 24 1 22 false,mg 25 8 22 false,og 26 (.len 1 (t 25)) 22 false,og 27 (.mn [(t 24),(t 26)]) 22 false,og 28 (b .gtr (t 23) (t 27)) 22 false,o 29 (.pick (t 22) (.c (.d (.b true))) (t 28))])
 (.cond (t 29)
 (.seq (.reg [o 4 (.mv (.c (.d (.s [])))),o 5 (.mv (.c .nilsl)),o 6 (.mv (k 30))])
 .ret)
 .skip))
 (.seq (.dreg 0 [⟨m 30 8,0,false,[],none⟩,⟨m 31 7,1,false,[],none⟩,⟨o 32 (.slSl 1 (t 30) none (some (t 31)) none),2,false,[],none⟩,⟨o 33 (.b2s (t 32)),3,false,[],none⟩,⟨m 34 8,4,false,[],none⟩,⟨m 35 7,5,false,[],none⟩,⟨o 36 (.slSl 1 (t 34) (some (t 35)) none none),6,false,[],none⟩,⟨m 4 33,7,false,[],none⟩,⟨m 5 36,8,false,[],none⟩,⟨o 6 (.mv (k 0)),9,false,[],none⟩])
 .ret)))),false⟩
def a436 : AFn := ⟨17,[.cell 2 true 4,.cell 3 false 1,.cell 4 false 1],
 (.seq (.reg [o 2 (.alloc 55 y3),o 3 (.alloc 64 [.nilsl]),o 4 (.alloc 39 [(.d (.i .i64 0))])])
 (.seq (.reg [o 6 (.mkfn (.func 468) [] [(t 2),(t 3),(t 4)]),u (.dfr (t 6) [])])
 (.seq (.reg [m 7 0,o 8 (.build [.nilsl,(.d (.i .i64 0))] [(0,1,(t 7)),(1,1,(k 200))]),o 9 (.box 532 (t 8)),m 5 9])
 (.seq (.reg [m 10 5,o 11 (.callf 469 [(t 10),(k 6)]),u (.store 4 (t 2) (t 11))])
 (.seq (.dreg 0 [⟨o 12 (.load true 4 (t 2)),0,false,[],none⟩,⟨u (.store 4 (t 2) (t 12)),5,true,[],none⟩,⟨m 13 5,1,false,[],none⟩,⟨o 14 (.nilchk (t 13)),2,false,[],none⟩,⟨o 15 (.fadd 0 (t 14)),3,false,[],none⟩,⟨l 16 15,4,false,[],none⟩,⟨u (.store 1 (t 3) (t 16)),6,true,[],none⟩,⟨u (.store 1 (t 4) (k 0)),7,true,[],none⟩])
 .ret))))),false⟩
def a437 : AFn := ⟨23,[.tmp 2,.tmp 3,.tmp 4],
 (.seq (.reg [o 2 (.mv (.c .nilsl)),o 3 (.mv (.c .nilsl)),o 4 (.mv (k 0))])
 (.seq (.reg [m 7 0,o 8 (.build [.nilsl,(.d (.b false))] [(0,1,(t 7))]),o 9 (.box 535 (t 8)),m 5 9])
 (.seq (.reg [m 10 5,m 11 5,o 12 (.mkfn (.func 471) [(t 11)] []),o 13 (.callf 470 [(t 10),(k 40),(t 12)]),m 6 13])
 (.seq (.seq (.reg [m 14 5,o 15 (.nilchk (t 14)),o 16 (.fadd 1 (t 15)),l 17 16])
 (.cond (t 17)
 (.seq (.reg [o 2 (.mv (.c .nilsl)),o 3 (.mv (.c .nilsl)),o 4 (.mv (k 30))])
 .ret)
 .skip))
 (.seq (.dreg 0 [⟨m 18 6,0,false,[],none⟩,⟨m 19 5,1,false,[],none⟩,⟨o 20 (.nilchk (t 19)),2,false,[],none⟩,⟨o 21 (.fadd 0 (t 20)),3,false,[],none⟩,⟨l 22 21,4,false,[],none⟩,⟨m 2 18,5,false,[],none⟩,⟨m 3 22,6,false,[],none⟩,⟨o 4 (.mv (k 0)),7,false,[],none⟩])
 .ret))))),false⟩
def a438 : AFn := ⟨12,[],
 (.seq (.reg [o 2 (.box 467 (t 0))])
 (.dreg 0 [⟨l 5 1,2,false,[],none⟩,⟨o 6 (.fadd 1 (t 2)),3,false,[],none⟩,⟨l 7 6,4,false,[],none⟩,⟨o 8 (.fadd 2 (t 2)),5,false,[],none⟩,⟨l 9 8,6,false,[],none⟩,⟨o 10 (.callf 390 [(t 5),(t 7),(t 9)]),7,true,[],none⟩,⟨o 3 (.fadd 0 (t 2)),0,false,[],none⟩,⟨l 4 3,1,false,[],none⟩,⟨o 11 (.nilchk (t 4)),8,false,[7],none⟩,⟨u (.store 1 (t 11) (t 10)),9,true,[],none⟩])),false⟩
def a440 : AFn := ⟨19,[.tmp 4],
 (.seq (.reg [o 4 (.mv (k 0))])
 (.seq (.seq (.reg [m 6 0,o 7 (.len 1 (t 6)),o 8 (.mv (k 0))])
 (.blk 0 (.loop (.seq (.reg [o 9 (b .lss (t 8) (t 7))])
 (.seq (.cond (t 9)
 .skip
 (.exit 0))
 (.seq (.blk 1 (.seq (.reg [m 10 8,m 5 10])
 (.seq (.reg [m 11 1,m 12 0,m 13 5,o 14 (.iaS 3 (t 12) (t 13)),o 15 (.load true 3 (t 14)),o 16 (.callv (t 11) [(t 15)])])
 (.cond (t 16)
 (.seq (.reg [m 17 5,m 4 17])
 .ret)
 .skip))))
 (.reg [o 18 (b .add (t 8) (k 1)),m 8 18])))))))
 (.seq (.reg [o 4 (.mv (k (-1)))])
 .ret))),false⟩
def a441 : AFn := ⟨19,[.tmp 4],
 (.seq (.reg [o 4 (.mv (k 0))])
 (.seq (.seq (.reg [m 6 0,o 7 (.len 1 (t 6)),o 8 (.mv (k 0))])
 (.blk 0 (.loop (.seq (.reg [o 9 (b .lss (t 8) (t 7))])
 (.seq (.cond (t 9)
 .skip
 (.exit 0))
 (.seq (.blk 1 (.seq (.reg [m 10 8,m 5 10])
 (.seq (.reg [m 11 1,m 12 0,m 13 5,o 14 (.iaS 1 (t 12) (t 13)),l 15 14,o 16 (.callv (t 11) [(t 15)])])
 (.cond (t 16)
 (.seq (.reg [m 17 5,m 4 17])
 .ret)
 .skip))))
 (.reg [o 18 (b .add (t 8) (k 1)),m 8 18])))))))
 (.seq (.reg [o 4 (.mv (k (-1)))])
 .ret))),false⟩
def a442 : AFn := ⟨14,[.tmp 2],
 (.seq (.reg [o 1 (.box 382 (t 0)),o 2 (.mv (.c (.d (.b false))))])
 (.seq (.reg [o 3 (.mv (.c (.d (.fn (.func 472) [] []))))])
 (.seq (.reg [o 4 (.fadd 0 (t 1)),l 5 4,o 6 (.callf 429 [(t 5)]),m 7 6,og 8 (.fadd 1 (t 1)) 7 true,lg 9 8 7 true,mg 10 3 7 true,og 11 (.callf 473 [(t 9),(t 10)]) 7 true,og 12 (.un .not (t 11)) 7 true,o 13 (.pick (t 7) (t 12) (.c (.d (.b false)))),m 2 13])
 .ret))),false⟩
def a443 : AFn := ⟨69,[.tmp 6,.tmp 7],
 (.seq (.reg [o 6 (.mv (k 0)),o 7 (.mv (k 0))])
 (.seq (.blk 0 (.seq (.reg [m 14 0,o 15 (.callf 294 [(t 14)]),m 13 15])
 (.cond (t 13)
 (.seq (.reg [o 6 (.mv (k 0)),o 7 (.mv (k 1))])
 .ret)
 (.seq (.reg [m 17 0,m 18 1,o 19 (.callf 444 [(t 17),(t 18)]),o 20 (.un .not (t 19)),m 21 20,mg 22 0 21 false,mg 23 2 21 false,og 24 (.callf 444 [(t 22),(t 23)]) 21 false,og 25 (.un .not (t 24)) 21 false,o 26 (.pick (t 21) (.c (.d (.b true))) (t 25)),m 16 26])
 (.cond (t 16)
 (.seq (.reg [o 6 (.mv (k 0)),o 7 (.mv (k 2))])
 .ret)
 (.seq (.reg [m 28 1,m 29 2,o 30 (b .eql (t 28) (t 29)),m 27 30])
 (.cond (t 27)
 (.seq (.reg [o 6 (.mv (k 0)),o 7 (.mv (k 25))])
 .ret)
 .skip)))))))
 (.seq (.reg [o 8 (.mv (k 0))])
 (.seq (.seq (.dreg 0 [⟨m 31 0,0,false,[],none⟩,⟨o 32 (.nilchk (t 31)),1,false,[],none⟩,⟨o 33 (.fadd 1 (t 32)),2,false,[],none⟩,⟨l 34 33,3,false,[],none⟩,⟨m 35 1,4,false,[],none⟩,⟨o 36 (.iaS 1 (t 34) (t 35)),5,false,[],none⟩,⟨l 37 36,6,false,[],none⟩,⟨m 38 0,7,false,[],none⟩,⟨o 39 (.nilchk (t 38)),8,false,[],none⟩,⟨o 40 (.fadd 1 (t 39)),9,false,[],none⟩,⟨l 41 40,10,false,[],none⟩,⟨m 42 2,11,false,[],none⟩,⟨o 43 (.iaS 1 (t 41) (t 42)),12,false,[],none⟩,⟨l 44 43,13,false,[],none⟩,⟨o 45 (b .gtr (t 37) (t 44)),14,false,[],none⟩])
 (.cond (t 45)
 (.seq (.reg [m 47 0,m 48 1,m 49 2,o 50 (.callf 474 [(t 47),(t 48),(t 49)]),m 46 50,o 51 (.extr (t 46) 0),o 52 (.extr (t 46) 1),m 9 51,m 10 52])
 (.seq (.seq (.reg [m 53 10,o 54 (b .neq (t 53) (k 0))])
 (.cond (t 54)
 (.seq (.reg [m 55 10,o 6 (.mv (k 0)),m 7 55])
 .ret)
 .skip))
 (.reg [m 56 9,m 8 56])))
 .skip))
 (.seq (.reg [m 58 0,o 59 (.nilchk (t 58)),o 60 (.fadd 0 (t 59)),l 61 60,m 62 1,m 63 2,o 64 (.callf 475 [(t 61),(t 62),(t 63)]),m 57 64,o 65 (.extr (t 57) 0),o 66 (.extr (t 57) 1),m 11 65,m 12 66])
 (.seq (.reg [m 67 8,m 68 12,m 6 67,m 7 68])
 .ret)))))),false⟩
def a444 : AFn := ⟨13,[.tmp 4],
 (.seq (.reg [o 4 (.mv (.c (.d (.b false))))])
 (.seq (.reg [m 5 1,o 6 (b .geq (t 5) (k 0)),m 7 6,mg 8 1 7 true,mg 9 0 7 true,og 10 (.callf 351 [(t 9)]) 7 true,og 11 (b .lss (t 8) (t 10)) 7 true,o 12 (.pick (t 7) (t 11) (.c (.d (.b false)))),m 4 12])
 .ret)),false⟩
def a445 : AFn := ⟨7,[.tmp 2],
 (.seq (.reg [o 2 (.mv (.c (.d (.i .u32 0))))])
 (.seq (.reg [o 3 (.callf 476 [(k 8),(.c (.d (.fn (.func 477) [] [])))]),m 4 0,o 5 (.cvi .u32 (t 4)),o 6 (.callv (t 3) [(t 5)]),m 2 6])
 .ret)),false⟩
def a446 : AFn := ⟨20,[],
 (.seq (.reg [l 4 1,o 5 (.callf 447 [(t 4)]),m 3 5])
 (.seq (.blk 0 (.loop (.seq (.seq (.reg [m 6 3,o 7 (b .geq (t 6) (.c (.d (.i .u64 128))))])
 (.cond (t 7)
 .skip
 (.exit 0)))
 (.seq (.blk 1 (.seq (.reg [m 10 0,m 11 3,o 12 (.cvi .u8 (t 11)),o 13 (b .or (t 12) (.c (.d (.i .u8 128)))),o 14 (.callv (t 10) [(t 13)]),o 15 (.un .not (t 14))])
 (.cond (t 15)
 .ret
 .skip)))
 (.reg [m 8 3,o 9 (b .shr (t 8) (.c (.d (.i .u64 7)))),m 3 9])))))
 (.reg [m 16 0,m 17 3,o 18 (.cvi .u8 (t 17)),o 19 (.callv (t 16) [(t 18)])]))),false⟩
def a447 : AFn := ⟨10,[.tmp 2],
 (.seq (.reg [o 2 (.mv (.c (.d (.i .u64 0))))])
 (.seq (.reg [m 3 0,o 4 (.cvi .u64 (t 3)),o 5 (b .shl (t 4) (.c (.d (.i .u64 1)))),m 6 0,o 7 (b .shr (t 6) (.c (.d (.i .u64 63)))),o 8 (.cvi .u64 (t 7)),o 9 (b .xor (t 5) (t 8)),m 2 9])
 .ret)),false⟩
def a448 : AFn := ⟨21,[.tmp 6],
 (.seq (.reg [o 6 (.mv (k 0))])
 (.seq (.seq (.reg [m 9 0,o 10 (.rng true (t 9))])
 (.blk 0 (.loop (.seq (.reg [o 11 (.nxt true (t 10)),o 12 (.extr (t 11) 0)])
 (.seq (.cond (t 12)
 .skip
 (.exit 0))
 (.blk 1 (.seq (.reg [o 13 (.extr (t 11) 1),o 14 (.extr (t 11) 2),m 7 13,m 8 14])
 (.seq (.reg [m 15 1,m 16 8,o 17 (.callv (t 15) [(t 16)]),m 18 2,o 19 (.bin .eql .bool (t 17) (t 18))])
 (.cond (t 19)
 (.seq (.reg [m 20 7,m 6 20])
 .ret)
 .skip)))))))))
 (.seq (.reg [o 6 (.mv (k (-1)))])
 .ret))),false⟩
def a449 : AFn := ⟨6,[.tmp 1],
 (.seq (.reg [o 1 (.mv (.c (.d (.b false))))])
 (.seq (.reg [o 2 (.fadd 8 (t 0)),l 3 2,o 4 (.callf 74 [(t 3)]),o 5 (.un .not (t 4)),m 1 5])
 .ret)),false⟩
def a450 : AFn := ⟨15,[.tmp 2],
 (.seq (.reg [o 1 (.box 490 (t 0)),o 2 (.mv (.c (.d (.b false))))])
 (.seq (.reg [o 3 (.fadd 8 (t 1)),l 4 3,o 5 (.len 1 (t 4)),o 6 (.fadd 0 (t 1)),o 7 (.fadd 2 (t 6)),l 8 7,o 9 (b .gtr (t 5) (t 8)),m 10 9,og 11 (.load true 9 (t 1)) 10 false,og 12 (.mkfn (.func 479) [] [(t 1)]) 10 false,og 13 (.callf 478 [(t 11),(t 12)]) 10 false,o 14 (.pick (t 10) (.c (.d (.b true))) (t 13)),m 2 14])
 .ret)),false⟩
def a451 : AFn := ⟨8,[.tmp 2],
 (.seq (.reg [o 1 (.box 490 (t 0)),o 2 (.mv (.c (.d (.b false))))])
 (.seq (.reg [o 4 .mkmap,o 3 (.alloc 403 [(.d .nilm)]),u (.store 1 (t 3) (t 4))])
 (.seq (.reg [o 5 (.load true 9 (t 1)),o 6 (.mkfn (.func 481) [] [(t 3)]),o 7 (.callf 478 [(t 5),(t 6)]),m 2 7])
 .ret))),false⟩
def a452 : AFn := ⟨32,[.tmp 2],
 (.seq (.reg [o 1 (.box 490 (t 0)),o 2 (.mv (.c (.d (.b false))))])
 (.seq (.reg [o 4 (.fadd 5 (t 1)),l 5 4,o 6 (.fadd 6 (t 1)),l 7 6,o 8 (.callf 192 [(t 5),(t 7)]),o 9 (b .add (t 8) (k 1)),m 3 9])
 (.seq (.reg [o 10 (.fadd 8 (t 1)),l 11 10,o 12 (.len 1 (t 11)),o 13 (b .gtr (t 12) (k 0)),m 14 13,mg 15 3 14 true,og 16 (.fadd 0 (t 1)) 14 true,og 17 (.fadd 1 (t 16)) 14 true,lg 18 17 14 true,og 19 (b .gtr (t 15) (t 18)) 14 true,o 20 (.pick (t 14) (t 19) (.c (.d (.b false)))),m 21 20,og 22 (.load true 9 (t 1)) 21 false,og 23 (.callf 478 [(t 22),(.c (.d (.fn (.func 480) [] [])))]) 21 false,mg 24 23 21 false,mg 25 3 24 true,og 26 (.fadd 0 (t 1)) 24 true,og 27 (.fadd 1 (t 26)) 24 true,lg 28 27 24 true,og 29 (b .geq (t 25) (t 28)) 24 true,og 30 (.pick (t 24) (t 29) (.c (.d (.b false)))) 21 false,o 31 (.pick (t 21) (.c (.d (.b true))) (t 30)),m 2 31])
 .ret))),false⟩
def a453 : AFn := ⟨6,[.tmp 2],
 (.seq (.reg [o 1 (.box 490 (t 0)),o 2 (.mv (.c (.d (.b false))))])
 (.seq (.reg [o 3 (.load true 9 (t 1)),o 4 (.mkfn (.func 482) [] [(t 1)]),o 5 (.callf 478 [(t 3),(t 4)]),m 2 5])
 .ret)),false⟩
def a454 : AFn := ⟨8,[.tmp 1],
 (.seq (.reg [o 1 (.mv (.c (.d (.b false))))])
 (.seq (.dreg 0 [⟨o 2 (.fadd 8 (t 0)),0,false,[],none⟩,⟨l 3 2,1,false,[],none⟩,⟨o 4 (.callf 455 [(t 3)]),2,true,[],none⟩,⟨o 5 (.fadd 7 (t 0)),3,false,[],none⟩,⟨l 6 5,4,false,[],none⟩,⟨o 7 (b .gtr (t 4) (t 6)),5,false,[2],none⟩,⟨m 1 7,6,false,[2],none⟩])
 .ret)),false⟩
def a455 : AFn := ⟨18,[.tmp 2],
 (.seq (.reg [o 2 (.mv (k 0))])
 (.seq (.reg [o 3 (.mv (k 0))])
 (.seq (.seq (.reg [m 6 0,o 7 (.len 1 (t 6)),o 8 (.mv (k 0))])
 (.blk 0 (.loop (.seq (.reg [o 9 (b .lss (t 8) (t 7))])
 (.seq (.cond (t 9)
 .skip
 (.exit 0))
 (.seq (.blk 1 (.seq (.reg [o 10 (.iaS 6 (t 6) (t 8)),o 11 (.load true 6 (t 10)),o 5 (.alloc 83 y4),u (.store 6 (t 5) (t 11))])
 (.reg [m 12 3,o 13 (.load true 6 (t 5)),o 14 (.callf 484 [(t 13)]),o 15 (b .add (t 12) (t 14)),m 3 15])))
 (.reg [o 16 (b .add (t 8) (k 1)),m 8 16])))))))
 (.seq (.reg [m 17 3,m 2 17])
 .ret)))),false⟩
def a456 : AFn := ⟨6,[.tmp 2],
 (.seq (.reg [o 1 (.box 490 (t 0)),o 2 (.mv (.c (.d (.b false))))])
 (.seq (.reg [o 3 (.load true 9 (t 1)),o 4 (.mkfn (.func 485) [] [(t 1)]),o 5 (.callf 478 [(t 3),(t 4)]),m 2 5])
 .ret)),false⟩
def a457 : AFn := ⟨19,[],
 (.seq (.reg [l 5 1,o 6 (.len 1 (t 5)),o 7 (.mv (k 0))])
 (.blk 0 (.loop (.seq (.reg [o 8 (b .lss (t 7) (t 6))])
 (.seq (.cond (t 8)
 .skip
 (.exit 0))
 (.seq (.blk 1 (.seq (.reg [o 9 (.iaS 2 (t 5) (t 7)),o 10 (.load true 2 (t 9)),o 4 (.alloc 518 [(.d (.i .i64 0)),(.d .nilf)]),u (.store 2 (t 4) (t 10))])
 (.seq (.reg [m 11 0,o 12 (.fadd 0 (t 4)),l 13 12,o 14 (.fadd 1 (t 4)),l 15 14,o 16 (.callv (t 11) [(t 13),(t 15)]),o 17 (.un .not (t 16))])
 (.cond (t 17)
 .ret
 .skip))))
 (.reg [o 18 (b .add (t 7) (k 1)),m 7 18]))))))),false⟩
def a458 : AFn := ⟨35,[.tmp 4,.tmp 5,.tmp 6],
 (.seq (.reg [o 2 (.box 490 (t 0)),o 3 (.box 9 (t 1)),o 4 (.mv (k 0)),o 5 (.mv (k 0)),o 6 (.mv (.c (.d (.b false))))])
 (.seq (.reg [o 10 (.fadd 8 (t 2)),l 11 10,o 12 (.mkfn (.func 486) [] [(t 3)]),o 13 (.callf 153 [(t 11),(t 12)]),m 7 13])
 (.seq (.seq (.reg [m 14 7,o 15 (b .geq (t 14) (k 0)),m 16 15,lg 17 3 16 true,og 18 (b .neq (t 17) (.c (.d (.s [])))) 16 true,o 19 (.pick (t 16) (t 18) (.c (.d (.b false))))])
 (.cond (t 19)
 (.seq (.reg [m 20 7,m 4 20,o 5 (.mv (k (-1))),o 6 (.mv (.c (.d (.b true))))])
 .ret)
 .skip))
 (.seq (.seq (.reg [o 21 (.fadd 6 (t 2)),l 22 21,o 23 (b .geq (t 22) (k 0))])
 (.cond (t 23)
 (.seq (.reg [o 25 (.fadd 5 (t 2)),l 26 25,o 27 (.fadd 6 (t 2)),l 28 27,l 29 3,o 30 (.callf 487 [(t 26),(t 28),(t 29)]),m 24 30,o 31 (.extr (t 24) 0),o 32 (.extr (t 24) 1),m 8 31,m 9 32])
 (.seq (.reg [m 33 9])
 (.cond (t 33)
 (.seq (.reg [m 34 8,o 4 (.mv (k (-1))),m 5 34,o 6 (.mv (.c (.d (.b true))))])
 .ret)
 .skip)))
 .skip))
 (.seq (.reg [o 4 (.mv (k (-1))),o 5 (.mv (k (-1))),o 6 (.mv (.c (.d (.b false))))])
 .ret))))),false⟩
def a459 : AFn := ⟨27,[.tmp 4],
 (.seq (.reg [o 4 (.mv (.c .nilsl))])
 (.seq (.seq (.reg [m 5 1,o 6 (b .lss (t 5) (k 0))])
 (.cond (t 6)
 (.reg [o 7 (.mkif 9 (.c (.d (.s [99,97,110,110,111,116,32,98,101,32,110,101,103,97,116,105,118,101])))),u (.panic (t 7))])
 .skip))
 (.seq (.seq (.reg [m 8 1,m 9 0,o 10 (.cap (t 9)),m 11 0,o 12 (.len 1 (t 11)),o 13 (b .sub (t 10) (t 12)),o 14 (b .sub (t 8) (t 13)),m 1 14])
 (.seq (.reg [m 15 1,o 16 (b .gtr (t 15) (k 0))])
 (.cond (t 16)
 (.reg [m 17 0,m 18 0,o 19 (.cap (t 18)),o 20 (.slSl 16 (t 17) none (some (t 19)) none),m 21 1,o 22 (.appz 111 16 184 y1 (t 20) (t 21)),m 23 0,o 24 (.len 1 (t 23)),o 25 (.slSl 16 (t 22) none (some (t 24)) none),m 0 25])
 .skip)))
 (.seq (.reg [m 26 0,m 4 26])
 .ret)))),false⟩
def a460 : AFn := ⟨28,[.tmp 4],
 (.seq (.reg [o 2 (.box 36 (t 0)),o 4 (.mv (.c (.d (.b false))))])
 (.seq (.seq (.reg [o 5 (.fadd 6 (t 2)),l 6 5,m 7 1,o 8 (.iaS 16 (t 6) (t 7)),o 9 (.fadd 9 (t 8)),l 10 9])
 (.blk 0 (.seq (.reg [o 12 (b .eql (t 10) (.c (.d (.i .u8 0)))),m 11 12])
 (.cond (t 11)
 (.seq (.dreg 0 [⟨o 13 (.load true 8 (t 2)),0,false,[],none⟩,⟨o 14 (.fadd 6 (t 2)),1,false,[],none⟩,⟨l 15 14,2,false,[],none⟩,⟨m 16 1,3,false,[],none⟩,⟨o 17 (.iaS 16 (t 15) (t 16)),4,false,[],none⟩,⟨o 18 (.fadd 6 (t 17)),5,false,[],none⟩,⟨l 19 18,6,false,[],none⟩,⟨o 20 (.callf 488 [(t 13),(t 19)]),7,true,[],none⟩,⟨m 4 20,8,false,[7],none⟩])
 .ret)
 (.seq (.reg [o 22 (b .eql (t 10) (.c (.d (.i .u8 3)))),m 21 22])
 (.cond (t 21)
 (.seq (.dreg 0 [⟨o 24 (.load true 8 (t 2)),1,false,[],none⟩,⟨m 25 1,2,false,[],none⟩,⟨o 26 (.callf 489 [(t 24),(t 25)]),3,true,[],none⟩,⟨o 23 (.load true 8 (t 2)),0,false,[],none⟩,⟨o 27 (.callf 488 [(t 23),(t 26)]),4,true,[],none⟩,⟨m 4 27,5,false,[4,3],none⟩])
 .ret)
 .skip))))))
 (.seq (.reg [o 4 (.mv (.c (.d (.b false))))])
 .ret))),false⟩
def a461 : AFn := ⟨42,[],
 (.seq (.reg [o 2 (.box 36 (t 0))])
 (.seq (.seq (.reg [o 6 (.fadd 6 (t 2)),l 7 6,m 8 1,o 9 (.iaS 16 (t 7) (t 8)),o 10 (.fadd 2 (t 9)),l 11 10,o 12 (b .neq (t 11) (.c (.d (.i .u8 1))))])
 (.cond (t 12)
 (.seq (.reg [o 13 (.load true 8 (t 2)),m 14 1,o 15 (.callf 428 [(t 13),(t 14),(.c (.d (.i .u8 4)))])])
 .ret)
 .skip))
 (.seq (.reg [o 17 (.fadd 6 (t 2)),l 18 17,m 19 1,o 20 (.callf 490 [(t 18),(t 19)]),m 16 20,o 21 (.extr (t 16) 0),o 22 (.extr (t 16) 1),o 4 (.alloc 55 y3),u (.store 4 (t 4) (t 21)),m 5 22])
 (.seq (.seq (.reg [m 23 5,o 24 (.un .not (t 23)),m 25 24,og 26 (.load true 4 (t 4)) 25 false,og 27 (.callf 118 [(t 26)]) 25 false,og 28 (.un .not (t 27)) 25 false,o 29 (.pick (t 25) (.c (.d (.b true))) (t 28))])
 (.cond (t 29)
 (.seq (.reg [o 30 (.load true 8 (t 2)),m 31 1,o 32 (.callf 387 [(t 30),(t 31),(.c (.d (.i .u8 5)))])])
 .ret)
 .skip))
 (.seq (.reg [o 33 (.load true 8 (t 2)),m 34 1,o 35 (.callf 428 [(t 33),(t 34),(.c (.d (.i .u8 4)))])])
 (.reg [o 36 (.fadd 6 (t 2)),l 37 36,m 38 1,o 39 (.load true 4 (t 4)),o 40 (.iaS 16 (t 37) (t 38)),o 41 (.fadd 12 (t 40)),u (.store 4 (t 41) (t 39))])))))),true⟩
def a467 : AFn := ⟨11,[.tmp 2],
 (.seq (.reg [o 2 (.mv (k 0))])
 (.seq (.reg [m 3 0,o 4 (b .shr (t 3) (.c (.d (.i .u64 1)))),o 5 (.cvi .i64 (t 4)),m 6 0,o 7 (b .and (t 6) (.c (.d (.i .u64 1)))),o 8 (.cvi .i64 (t 7)),o 9 (.un .neg (t 8)),o 10 (b .xor (t 5) (t 9)),m 2 10])
 .ret)),false⟩
def a468 : AFn := ⟨13,[],
 (.seq (.reg [o 6 .recov])
 (.blk 0 (.seq (.reg [o 8 (.bin .eql .iface (t 6) (.c (.d .nili)))])
 (.cond (t 8)
 (.reg [m 3 6])
 (.seq (.reg [o 9 (.tas 529 true [] true (t 6)),o 10 (.extr (t 9) 1),o 11 (.extr (t 9) 0)])
 (.cond (t 10)
 (.seq (.reg [o 4 (.alloc 529 []),u (.store 0 (t 4) (t 11))])
 (.reg [o 12 (.build y3 []),u (.store 4 (t 0) (t 12)),u (.store 1 (t 1) (.c .nilsl)),u (.store 1 (t 2) (k 30))]))
 (.seq (.reg [m 5 6])
 (.reg [m 7 5,u (.panic (t 7))])))))))),false⟩
def a469 : AFn := ⟨57,[.cell 4 true 4],
 (.seq (.reg [o 4 (.alloc 55 y3)])
 (.seq (.reg [m 6 0,o 7 (.callf 493 [(t 6),(k 0),(k 2)]),o 8 (.cvi .u8 (t 7)),o 9 (.build y3 [(0,1,(t 8))]),o 5 (.alloc 55 y3),u (.store 4 (t 5) (t 9))])
 (.seq (.seq (.reg [m 10 0,o 11 (.nilchk (t 10)),o 12 (.fadd 1 (t 11)),l 13 12,o 14 (b .sub (t 13) (k 1)),o 15 (.nilchk (t 10)),o 16 (.fadd 1 (t 15)),u (.store 1 (t 16) (t 14))])
 (.seq (.reg [m 17 0,o 18 (.nilchk (t 17)),o 19 (.fadd 1 (t 18)),l 20 19,o 21 (b .lss (t 20) (k 0)),m 22 21,mg 23 1 22 false,og 24 (b .eql (t 23) (k 0)) 22 false,o 25 (.pick (t 22) (.c (.d (.b true))) (t 24))])
 (.cond (t 25)
 (.reg [o 26 (.build [] []),o 27 (.mkif 529 (t 26)),u (.panic (t 27))])
 .skip)))
 (.seq (.seq (.reg [o 28 (.fadd 0 (t 5)),l 29 28])
 (.blk 0 (.seq (.reg [o 31 (b .eql (t 29) (.c (.d (.i .u8 0)))),m 30 31])
 (.cond (t 30)
 (.reg [m 32 0,o 33 (.callf 493 [(t 32),(k (-9223372036854775808)),(k 9223372036854775807)]),o 34 (.fadd 1 (t 5)),u (.store 1 (t 34) (t 33))])
 (.seq (.reg [o 36 (b .eql (t 29) (.c (.d (.i .u8 1)))),m 35 36])
 (.cond (t 35)
 (.reg [m 37 0,o 38 (.callf 494 [(t 37)]),o 39 (.fadd 2 (t 5)),u (.store 1 (t 39) (t 38))])
 (.seq (.reg [o 41 (b .eql (t 29) (.c (.d (.i .u8 2)))),m 40 41])
 (.cond (t 40)
 (.seq (.reg [m 42 0,o 43 (.callf 493 [(t 42),(k 0),(k 40)]),o 44 (.mv (k 0))])
 (.blk 1 (.loop (.seq (.reg [o 45 (b .lss (t 44) (t 43))])
 (.seq (.cond (t 45)
 .skip
 (.exit 1))
 (.seq (.blk 2 (.dreg 1 [⟨m 48 0,2,false,[],none⟩,⟨m 49 1,3,false,[],none⟩,⟨o 50 (b .sub (t 49) (k 1)),4,false,[],none⟩,⟨o 51 (.callf 469 [(t 48),(t 50)]),5,true,[],none⟩,⟨o 46 (.fadd 3 (t 5)),0,false,[],none⟩,⟨l 47 46,1,false,[],none⟩,⟨o 52 (.bsl 55 4 1 y3 [(0,4,(t 51))]),6,false,[],(some 0)⟩,⟨o 53 (.app 55 4 56 false (t 47) (t 52)),7,true,[],none⟩,⟨o 54 (.fadd 3 (t 5)),8,false,[7,5],none⟩,⟨u (.store 1 (t 54) (t 53)),9,true,[],none⟩]))
 (.reg [o 55 (b .add (t 44) (k 1)),m 44 55])))))))
 .skip))))))))
 (.seq (.reg [o 56 (.load true 4 (t 5)),u (.store 4 (t 4) (t 56))])
 .ret))))),false⟩
def a470 : AFn := ⟨27,[.tmp 6],
 (.seq (.reg [o 6 (.mv (.c .nilsl))])
 (.seq (.reg [o 7 (.mv (.c .nilsl))])
 (.seq (.seq (.reg [m 9 0,m 10 1,o 11 (.callf 495 [(t 9),(t 10)]),o 12 (.mv (k 0))])
 (.blk 0 (.loop (.seq (.reg [o 13 (b .lss (t 12) (t 11))])
 (.seq (.cond (t 13)
 .skip
 (.exit 0))
 (.seq (.blk 1 (.seq (.reg [m 14 2,o 15 (.callv (t 14) []),o 8 (.alloc 83 y4),u (.store 6 (t 8) (t 15))])
 (.seq (.reg [m 16 0,o 17 (.nilchk (t 16)),o 18 (.fadd 1 (t 17)),l 19 18,o 20 (.un .not (t 19))])
 (.cond (t 20)
 (.reg [m 21 7,o 22 (.load true 6 (t 8)),o 23 (.bsl 83 6 1 y4 [(0,6,(t 22))]),o 24 (.app 83 6 80 false (t 21) (t 23)),m 7 24])
 .skip))))
 (.reg [o 25 (b .add (t 12) (k 1)),m 12 25])))))))
 (.seq (.reg [m 26 7,m 6 26])
 .ret)))),false⟩
def a471 : AFn := ⟨40,[.cell 2 true 6],
 (.seq (.reg [o 2 (.alloc 83 y4)])
 (.seq (.reg [m 4 0,o 5 (.callf 496 [(t 4)]),m 6 0,o 7 (.callf 495 [(t 6),(k 1)]),o 8 (.cvi .u8 (t 7)),o 9 (.build y4 [(0,1,(t 5)),(1,1,(t 8))]),o 3 (.alloc 83 y4),u (.store 6 (t 3) (t 9))])
 (.seq (.reg [m 10 0,m 11 0,o 12 (.mkfn (.func 496) [(t 11)] []),o 13 (.callf 497 [(t 10),(k 20),(t 12)]),o 14 (.fadd 2 (t 3)),u (.store 1 (t 14) (t 13))])
 (.seq (.reg [m 15 0,o 16 (.callf 495 [(t 15),(k 400)]),o 17 (.fadd 5 (t 3)),u (.store 1 (t 17) (t 16))])
 (.seq (.seq (.reg [o 18 (.fadd 1 (t 3)),l 19 18,o 20 (b .eql (t 19) (.c (.d (.i .u8 1))))])
 (.cond (t 20)
 (.seq (.reg [m 21 0,o 22 (.callf 496 [(t 21)]),o 23 (.fadd 3 (t 3)),u (.store 1 (t 23) (t 22))])
 (.reg [m 24 0,o 25 (.callf 495 [(t 24),(k 40)]),o 26 (.fadd 4 (t 3)),u (.store 1 (t 26) (t 25))]))
 .skip))
 (.seq (.reg [m 27 0,m 28 0,o 29 (.nilchk (t 28)),o 30 (.fadd 1 (t 29)),l 31 30,m 32 31,og 33 (.load true 6 (t 3)) 32 false,og 34 (.callf 114 [(t 33)]) 32 false,og 35 (.un .not (t 34)) 32 false,o 36 (.pick (t 32) (.c (.d (.b true))) (t 35)),o 37 (.nilchk (t 27)),o 38 (.fadd 1 (t 37)),u (.store 1 (t 38) (t 36))])
 (.seq (.reg [o 39 (.load true 6 (t 3)),u (.store 6 (t 2) (t 39))])
 .ret))))))),false⟩
def a472 : AFn := ⟨18,[.tmp 2],
 (.seq (.reg [o 1 (.box 451 (t 0)),o 2 (.mv (.c (.d (.b false))))])
 (.seq (.reg [o 3 (.fadd 0 (t 1)),l 4 3,o 5 (.callf 154 [(t 4)]),o 6 (.un .not (t 5)),m 7 6,og 8 (.fadd 1 (t 1)) 7 false,lg 9 8 7 false,og 10 (b .neq (t 9) (k (-1))) 7 false,mg 11 10 7 false,og 12 (.fadd 1 (t 1)) 11 true,lg 13 12 11 true,og 14 (.callf 429 [(t 13)]) 11 true,og 15 (.un .not (t 14)) 11 true,og 16 (.pick (t 11) (t 15) (.c (.d (.b false)))) 7 false,o 17 (.pick (t 7) (.c (.d (.b true))) (t 16)),m 2 17])
 .ret)),false⟩
def a473 : AFn := ⟨9,[.tmp 4],
 (.seq (.reg [o 4 (.mv (.c (.d (.b false))))])
 (.seq (.reg [m 5 0,m 6 1,o 7 (.callf 498 [(t 5),(t 6)]),o 8 (b .geq (t 7) (k 0)),m 4 8])
 .ret)),false⟩
def a475 : AFn := ⟨69,[.tmp 6,.tmp 7],
 (.seq (.reg [o 6 (.mv (.c (.d (.b false)))),o 7 (.mv (k 0))])
 (.seq (.blk 0 (.seq (.reg [m 10 0,o 11 (.callf 370 [(t 10)]),m 9 11])
 (.cond (t 9)
 (.seq (.reg [o 6 (.mv (.c (.d (.b false)))),o 7 (.mv (k 1))])
 .ret)
 (.seq (.reg [m 13 0,m 14 1,o 15 (.callf 508 [(t 13),(t 14)]),o 16 (.un .not (t 15)),m 17 16,mg 18 0 17 false,mg 19 2 17 false,og 20 (.callf 508 [(t 18),(t 19)]) 17 false,og 21 (.un .not (t 20)) 17 false,o 22 (.pick (t 17) (.c (.d (.b true))) (t 21)),m 23 22,mg 24 1 23 false,mg 25 2 23 false,og 26 (b .eql (t 24) (t 25)) 23 false,o 27 (.pick (t 23) (.c (.d (.b true))) (t 26)),m 12 27])
 (.cond (t 12)
 (.seq (.reg [o 6 (.mv (.c (.d (.b false)))),o 7 (.mv (k 2))])
 .ret)
 .skip)))))
 (.seq (.reg [o 8 (.mv (.c (.d (.b false))))])
 (.seq (.dreg 0 [⟨m 34 0,5,false,[],none⟩,⟨o 35 (.nilchk (t 34)),6,false,[],none⟩,⟨o 36 (.fadd 1 (t 35)),7,false,[],none⟩,⟨l 37 36,8,false,[],none⟩,⟨m 38 1,9,false,[],none⟩,⟨o 39 (.iaS 2 (t 37) (t 38)),10,false,[],none⟩,⟨o 40 (.fadd 0 (t 39)),11,false,[],none⟩,⟨l 41 40,12,false,[],none⟩,⟨m 42 2,13,false,[],none⟩,⟨o 43 (.callf 509 [(t 41),(t 42)]),14,true,[],none⟩,⟨m 29 0,0,false,[],none⟩,⟨o 30 (.nilchk (t 29)),1,false,[],none⟩,⟨o 31 (.fadd 1 (t 30)),2,false,[],none⟩,⟨l 32 31,3,false,[],none⟩,⟨m 33 1,4,false,[],none⟩,⟨m 28 43,15,false,[14],none⟩,⟨o 44 (.extr (t 28) 0),16,false,[14],none⟩,⟨o 46 (.iaS 2 (t 32) (t 33)),18,false,[14],none⟩,⟨o 47 (.fadd 0 (t 46)),19,false,[14],none⟩,⟨u (.store 1 (t 47) (t 44)),20,true,[],none⟩,⟨o 45 (.extr (t 28) 1),17,false,[14],none⟩,⟨m 8 45,21,false,[20,14],none⟩])
 (.seq (.dreg 0 [⟨m 54 0,5,false,[],none⟩,⟨o 55 (.nilchk (t 54)),6,false,[],none⟩,⟨o 56 (.fadd 1 (t 55)),7,false,[],none⟩,⟨l 57 56,8,false,[],none⟩,⟨m 58 2,9,false,[],none⟩,⟨o 59 (.iaS 2 (t 57) (t 58)),10,false,[],none⟩,⟨o 60 (.fadd 1 (t 59)),11,false,[],none⟩,⟨l 61 60,12,false,[],none⟩,⟨m 62 1,13,false,[],none⟩,⟨o 63 (.callf 509 [(t 61),(t 62)]),14,true,[],none⟩,⟨m 49 0,0,false,[],none⟩,⟨o 50 (.nilchk (t 49)),1,false,[],none⟩,⟨o 51 (.fadd 1 (t 50)),2,false,[],none⟩,⟨l 52 51,3,false,[],none⟩,⟨m 53 2,4,false,[],none⟩,⟨m 48 63,15,false,[14],none⟩,⟨o 64 (.extr (t 48) 0),16,false,[14],none⟩,⟨o 66 (.iaS 2 (t 52) (t 53)),18,false,[14],none⟩,⟨o 67 (.fadd 1 (t 66)),19,false,[14],none⟩,⟨u (.store 1 (t 67) (t 64)),20,true,[],none⟩,⟨o 65 (.extr (t 48) 1),17,false,[14],none⟩])
 (.seq (.reg [m 68 8,m 6 68,o 7 (.mv (k 0))])
 .ret)))))),false⟩
def a476 : AFn := ⟨6,[.tmp 4],
 (.seq (.reg [o 2 (.box 3 (t 0)),o 3 (.box 541 (t 1)),o 4 (.mv (.c (.d .nilf)))])
 (.seq (.reg [o 5 (.mkfn (.func 510) [] [(t 2),(t 3)]),m 4 5])
 .ret)),false⟩
def a477 : AFn := ⟨11,[.tmp 2],
 (.seq (.reg [o 2 (.mv (.c (.d (.i .u32 0))))])
 (.seq (.seq (.reg [m 3 0,o 4 (b .and (t 3) (.c (.d (.i .u32 1)))),o 5 (b .eql (t 4) (.c (.d (.i .u32 1))))])
 (.cond (t 5)
 (.seq (.reg [m 6 0,o 7 (b .shr (t 6) (.c (.d (.i .u64 1)))),o 8 (b .xor (t 7) (.c (.d (.i .u32 3988292384)))),m 2 8])
 .ret)
 .skip))
 (.seq (.reg [m 9 0,o 10 (b .shr (t 9) (.c (.d (.i .u64 1)))),m 2 10])
 .ret))),false⟩
def a478 : AFn := ⟨9,[.tmp 4],
 (.seq (.reg [o 2 (.box 490 (t 0)),o 4 (.mv (.c (.d (.b false))))])
 (.seq (.reg [o 5 (.fadd 8 (t 2)),l 6 5,m 7 1,o 8 (.callf 112 [(t 6),(t 7)]),m 4 8])
 .ret)),false⟩
def a479 : AFn := ⟨14,[.tmp 3],
 (.seq (.reg [o 2 (.box 83 (t 0)),o 3 (.mv (.c (.d (.b false))))])
 (.seq (.reg [o 4 (.load true 6 (t 2)),o 5 (.callf 480 [(t 4)]),m 6 5,og 7 (.fadd 4 (t 2)) 6 true,lg 8 7 6 true,og 9 (.fadd 0 (t 1)) 6 true,og 10 (.fadd 2 (t 9)) 6 true,lg 11 10 6 true,og 12 (b .gtr (t 8) (t 11)) 6 true,o 13 (.pick (t 6) (t 12) (.c (.d (.b false)))),m 3 13])
 .ret)),false⟩
def a480 : AFn := ⟨6,[.tmp 2],
 (.seq (.reg [o 1 (.box 83 (t 0)),o 2 (.mv (.c (.d (.b false))))])
 (.seq (.reg [o 3 (.fadd 1 (t 1)),l 4 3,o 5 (b .eql (t 4) (.c (.d (.i .u8 1)))),m 2 5])
 .ret)),false⟩
def a481 : AFn := ⟨14,[.tmp 3],
 (.seq (.reg [o 2 (.box 83 (t 0)),o 3 (.mv (.c (.d (.b false))))])
 (.seq (.reg [l 4 1,o 5 (.fadd 0 (t 2)),l 6 5,o 7 (.look (.one .s) false [(.d (.i .i64 0))] false (t 4) (t 6)),o 8 (b .add (t 7) (k 1)),u (.mupd (.one .s) (t 4) (t 6) (t 8))])
 (.seq (.reg [l 9 1,o 10 (.fadd 0 (t 2)),l 11 10,o 12 (.look (.one .s) false [(.d (.i .i64 0))] false (t 9) (t 11)),o 13 (b .gtr (t 12) (k 1)),m 3 13])
 .ret))),false⟩
def a482 : AFn := ⟨19,[.tmp 3],
 (.seq (.reg [o 2 (.box 83 (t 0)),o 3 (.mv (.c (.d (.b false))))])
 (.seq (.reg [o 4 (.fadd 2 (t 2)),l 5 4,o 6 (.load true 9 (t 1)),o 7 (.mkfn (.func 483) [(t 6)] []),o 8 (.callf 156 [(t 5),(t 7)]),m 9 8,og 10 (.load true 6 (t 2)) 9 false,og 11 (.callf 480 [(t 10)]) 9 false,mg 12 11 9 false,og 13 (.load true 9 (t 1)) 12 true,og 14 (.fadd 3 (t 2)) 12 true,lg 15 14 12 true,og 16 (.callf 483 [(t 13),(t 15)]) 12 true,og 17 (.pick (t 12) (t 16) (.c (.d (.b false)))) 9 false,o 18 (.pick (t 9) (.c (.d (.b true))) (t 17)),m 3 18])
 .ret)),false⟩
def a483 : AFn := ⟨17,[.tmp 4],
 (.seq (.reg [o 2 (.box 490 (t 0)),o 4 (.mv (.c (.d (.b false))))])
 (.seq (.reg [o 9 (.load true 9 (t 2)),m 10 1,o 11 (.callf 458 [(t 9),(t 10)]),m 8 11,o 12 (.extr (t 8) 0),o 13 (.extr (t 8) 1),o 14 (.extr (t 8) 2),m 5 12,m 6 13,m 7 14])
 (.seq (.reg [m 15 7,o 16 (.un .not (t 15)),m 4 16])
 .ret))),false⟩
def a484 : AFn := ⟨21,[.tmp 2],
 (.seq (.reg [o 1 (.box 83 (t 0)),o 2 (.mv (k 0))])
 (.seq (.reg [o 3 (.mv (k 1))])
 (.seq (.seq (.reg [o 5 (.fadd 1 (t 1)),l 6 5,o 7 (b .eql (t 6) (.c (.d (.i .u8 1))))])
 (.cond (t 7)
 (.reg [o 8 (.fadd 4 (t 1)),l 9 8,m 3 9])
 .skip))
 (.seq (.reg [m 10 3,o 11 (.fadd 5 (t 1)),l 12 11,o 13 (b .add (k 1) (t 12)),o 14 (b .mul (t 10) (t 13)),m 4 14])
 (.seq (.seq (.reg [o 15 (.fadd 1 (t 1)),l 16 15,o 17 (b .eql (t 16) (.c (.d (.i .u8 1))))])
 (.cond (t 17)
 (.reg [m 18 4,o 19 (b .add (t 18) (k 1)),m 4 19])
 .skip))
 (.seq (.reg [m 20 4,m 2 20])
 .ret)))))),false⟩
def a485 : AFn := ⟨59,[.tmp 3],
 (.seq (.reg [o 2 (.box 83 (t 0)),o 3 (.mv (.c (.d (.b false))))])
 (.seq (.seq (.reg [o 7 (.load true 6 (t 2)),o 8 (.callf 480 [(t 7)]),o 9 (.un .not (t 8))])
 (.cond (t 9)
 (.seq (.reg [o 3 (.mv (.c (.d (.b false))))])
 .ret)
 .skip))
 (.seq (.seq (.reg [o 11 (.load true 9 (t 1)),o 12 (.fadd 3 (t 2)),l 13 12,o 14 (.callf 458 [(t 11),(t 13)]),m 10 14,o 15 (.extr (t 10) 0),o 16 (.extr (t 10) 1),o 17 (.extr (t 10) 2),m 4 15,m 5 16,m 6 17])
 (.blk 0 (.seq (.reg [m 19 4,o 20 (b .geq (t 19) (k 0)),m 18 20])
 (.cond (t 18)
 (.seq (.dreg 0 [⟨o 21 (.fadd 8 (t 1)),0,false,[],none⟩,⟨l 22 21,1,false,[],none⟩,⟨m 23 4,2,false,[],none⟩,⟨o 24 (.iaS 6 (t 22) (t 23)),3,false,[],none⟩,⟨o 25 (.load true 6 (t 24)),4,false,[],none⟩,⟨o 26 (.callf 480 [(t 25)]),5,true,[],none⟩,⟨m 27 26,6,false,[5],none⟩,⟨og 28 (.fadd 8 (t 1)) 27 true,7,false,[5],none⟩,⟨lg 29 28 27 true,8,false,[5],none⟩,⟨mg 30 4 27 true,9,false,[5],none⟩,⟨og 31 (.iaS 6 (t 29) (t 30)) 27 true,10,false,[5],none⟩,⟨og 32 (.fadd 4 (t 31)) 27 true,11,false,[5],none⟩,⟨lg 33 32 27 true,12,false,[5],none⟩,⟨og 34 (.fadd 4 (t 2)) 27 true,13,false,[5],none⟩,⟨lg 35 34 27 true,14,false,[5],none⟩,⟨og 36 (b .gtr (t 33) (t 35)) 27 true,15,false,[5],none⟩,⟨o 37 (.pick (t 27) (t 36) (.c (.d (.b false)))),16,false,[5],none⟩,⟨m 3 37,17,false,[5],none⟩])
 .ret)
 (.seq (.reg [m 39 5,o 40 (b .geq (t 39) (k 0)),m 38 40])
 (.cond (t 38)
 (.seq (.dreg 0 [⟨o 41 (.fadd 5 (t 1)),0,false,[],none⟩,⟨l 42 41,1,false,[],none⟩,⟨m 43 5,2,false,[],none⟩,⟨o 44 (.iaS 16 (t 42) (t 43)),3,false,[],none⟩,⟨o 45 (.fadd 2 (t 44)),4,false,[],none⟩,⟨l 46 45,5,false,[],none⟩,⟨o 47 (b .eql (t 46) (.c (.d (.i .u8 1)))),6,false,[],none⟩,⟨m 48 47,7,false,[],none⟩,⟨og 49 (.fadd 5 (t 1)) 48 true,8,false,[],none⟩,⟨lg 50 49 48 true,9,false,[],none⟩,⟨mg 51 5 48 true,10,false,[],none⟩,⟨og 52 (.iaS 16 (t 50) (t 51)) 48 true,11,false,[],none⟩,⟨og 53 (.fadd 7 (t 52)) 48 true,12,false,[],none⟩,⟨lg 54 53 48 true,13,false,[],none⟩,⟨og 55 (.fadd 4 (t 2)) 48 true,14,false,[],none⟩,⟨lg 56 55 48 true,15,false,[],none⟩,⟨og 57 (b .gtr (t 54) (t 56)) 48 true,16,false,[],none⟩,⟨o 58 (.pick (t 48) (t 57) (.c (.d (.b false)))),17,false,[],none⟩,⟨m 3 58,18,false,[],none⟩])
 .ret)
 .skip))))))
 (.seq (.reg [o 3 (.mv (.c (.d (.b false))))])
 .ret)))),false⟩
def a486 : AFn := ⟨8,[.tmp 3],
 (.seq (.reg [o 2 (.box 83 (t 0)),o 3 (.mv (.c (.d (.b false))))])
 (.seq (.reg [o 4 (.fadd 0 (t 2)),l 5 4,l 6 1,o 7 (b .eql (t 5) (t 6)),m 3 7])
 .ret)),false⟩
def a488 : AFn := ⟨9,[.tmp 4],
 (.seq (.reg [o 2 (.box 36 (t 0)),o 4 (.mv (.c (.d (.b false))))])
 (.seq (.reg [m 5 1,o 6 (.mkfn (.func 514) [] [(t 2)]),o 7 (.callf 400 [(t 5),(t 6)]),o 8 (.un .not (t 7)),m 4 8])
 .ret)),false⟩
def a489 : AFn := ⟨27,[.tmp 4],
 (.seq (.reg [o 2 (.box 36 (t 0)),o 4 (.mv (.c .nilsl))])
 (.seq (.reg [o 5 (.mv (.c .nilsl))])
 (.seq (.seq (.reg [o 7 (.fadd 6 (t 2)),l 8 7,o 9 (.len 1 (t 8)),o 10 (.mv (k 0))])
 (.blk 0 (.loop (.seq (.reg [o 11 (b .lss (t 10) (t 9))])
 (.seq (.cond (t 11)
 .skip
 (.exit 0))
 (.seq (.blk 1 (.seq (.reg [m 12 10,m 6 12])
 (.seq (.reg [o 13 (.fadd 6 (t 2)),l 14 13,m 15 6,o 16 (.iaS 16 (t 14) (t 15)),o 17 (.fadd 4 (t 16)),l 18 17,m 19 1,o 20 (b .eql (t 18) (t 19))])
 (.cond (t 20)
 (.reg [m 21 5,m 22 6,o 23 (.bsl 3 1 1 [(.d (.i .i64 0))] [(0,1,(t 22))]),o 24 (.app 3 1 8 false (t 21) (t 23)),m 5 24])
 .skip))))
 (.reg [o 25 (b .add (t 10) (k 1)),m 10 25])))))))
 (.seq (.reg [m 26 5,m 4 26])
 .ret)))),false⟩
def a493 : AFn := ⟨38,[.tmp 6],
 (.seq (.reg [o 6 (.mv (k 0))])
 (.seq (.reg [m 11 0,o 12 (.nilchk (t 11)),o 13 (.fadd 0 (t 12)),l 14 13,o 15 (.callf 434 [(t 14)]),m 10 15,o 16 (.extr (t 10) 0),o 17 (.extr (t 10) 1),o 18 (.extr (t 10) 2),m 7 16,m 8 17,m 9 18])
 (.seq (.seq (.reg [m 19 9,o 20 (b .neq (t 19) (k 0)),m 21 20,mg 22 7 21 false,mg 23 1 21 false,og 24 (b .lss (t 22) (t 23)) 21 false,o 25 (.pick (t 21) (.c (.d (.b true))) (t 24)),m 26 25,mg 27 7 26 false,mg 28 2 26 false,og 29 (b .gtr (t 27) (t 28)) 26 false,o 30 (.pick (t 26) (.c (.d (.b true))) (t 29))])
 (.cond (t 30)
 (.reg [o 31 (.build [] []),o 32 (.mkif 529 (t 31)),u (.panic (t 32))])
 .skip))
 (.seq (.reg [m 33 0,m 34 8,o 35 (.nilchk (t 33)),o 36 (.fadd 0 (t 35)),u (.store 1 (t 36) (t 34))])
 (.seq (.reg [m 37 7,m 6 37])
 .ret))))),false⟩
def a495 : AFn := ⟨46,[.tmp 4],
 (.seq (.reg [o 4 (.mv (k 0))])
 (.seq (.reg [m 9 0,o 10 (.nilchk (t 9)),o 11 (.fadd 0 (t 10)),l 12 11,o 13 (.callf 434 [(t 12)]),m 8 13,o 14 (.extr (t 8) 0),o 15 (.extr (t 8) 1),o 16 (.extr (t 8) 2),m 5 14,m 6 15,m 7 16])
 (.seq (.seq (.reg [m 17 0,m 18 0,o 19 (.nilchk (t 18)),o 20 (.fadd 1 (t 19)),l 21 20,m 22 21,mg 23 7 22 false,og 24 (b .neq (t 23) (k 0)) 22 false,o 25 (.pick (t 22) (.c (.d (.b true))) (t 24)),m 26 25,mg 27 5 26 false,og 28 (b .lss (t 27) (k 0)) 26 false,o 29 (.pick (t 26) (.c (.d (.b true))) (t 28)),m 30 29,mg 31 5 30 false,mg 32 1 30 false,og 33 (b .gtr (t 31) (t 32)) 30 false,o 34 (.pick (t 30) (.c (.d (.b true))) (t 33)),o 35 (.nilchk (t 17)),o 36 (.fadd 1 (t 35)),u (.store 1 (t 36) (t 34))])
 (.seq (.reg [m 37 0,o 38 (.nilchk (t 37)),o 39 (.fadd 1 (t 38)),l 40 39])
 (.cond (t 40)
 (.seq (.reg [o 4 (.mv (k 0))])
 .ret)
 .skip)))
 (.seq (.reg [m 41 0,m 42 6,o 43 (.nilchk (t 41)),o 44 (.fadd 0 (t 43)),u (.store 1 (t 44) (t 42))])
 (.seq (.reg [m 45 5,m 4 45])
 .ret))))),false⟩
def a496 : AFn := ⟨35,[.tmp 2],
 (.seq (.reg [o 2 (.mv (.c (.d (.s []))))])
 (.seq (.reg [m 7 0,o 8 (.nilchk (t 7)),o 9 (.fadd 0 (t 8)),l 10 9,o 11 (.callf 435 [(t 10),(k 20)]),m 6 11,o 12 (.extr (t 6) 0),o 13 (.extr (t 6) 1),o 14 (.extr (t 6) 2),m 3 12,m 4 13,m 5 14])
 (.seq (.seq (.reg [m 15 0,m 16 0,o 17 (.nilchk (t 16)),o 18 (.fadd 1 (t 17)),l 19 18,m 20 19,mg 21 5 20 false,og 22 (b .neq (t 21) (k 0)) 20 false,o 23 (.pick (t 20) (.c (.d (.b true))) (t 22)),o 24 (.nilchk (t 15)),o 25 (.fadd 1 (t 24)),u (.store 1 (t 25) (t 23))])
 (.seq (.reg [m 26 0,o 27 (.nilchk (t 26)),o 28 (.fadd 1 (t 27)),l 29 28])
 (.cond (t 29)
 (.seq (.reg [o 2 (.mv (.c (.d (.s []))))])
 .ret)
 .skip)))
 (.seq (.reg [m 30 0,m 31 4,o 32 (.nilchk (t 30)),o 33 (.fadd 0 (t 32)),u (.store 1 (t 33) (t 31))])
 (.seq (.reg [m 34 3,m 2 34])
 .ret))))),false⟩
def a497 : AFn := ⟨27,[.tmp 6],
 (.seq (.reg [o 6 (.mv (.c .nilsl))])
 (.seq (.reg [o 7 (.mv (.c .nilsl))])
 (.seq (.seq (.reg [m 9 0,m 10 1,o 11 (.callf 495 [(t 9),(t 10)]),o 12 (.mv (k 0))])
 (.blk 0 (.loop (.seq (.reg [o 13 (b .lss (t 12) (t 11))])
 (.seq (.cond (t 13)
 .skip
 (.exit 0))
 (.seq (.blk 1 (.seq (.reg [m 14 2,o 15 (.callv (t 14) []),m 8 15])
 (.seq (.reg [m 16 0,o 17 (.nilchk (t 16)),o 18 (.fadd 1 (t 17)),l 19 18,o 20 (.un .not (t 19))])
 (.cond (t 20)
 (.reg [m 21 7,m 22 8,o 23 (.bsl 9 1 1 [(.d (.s []))] [(0,1,(t 22))]),o 24 (.app 9 1 16 false (t 21) (t 23)),m 7 24])
 .skip))))
 (.reg [o 25 (b .add (t 12) (k 1)),m 12 25])))))))
 (.seq (.reg [m 26 7,m 6 26])
 .ret)))),false⟩
def a498 : AFn := ⟨19,[.tmp 4],
 (.seq (.reg [o 4 (.mv (k 0))])
 (.seq (.seq (.reg [m 6 0,o 7 (.len 1 (t 6)),o 8 (.mv (k 0))])
 (.blk 0 (.loop (.seq (.reg [o 9 (b .lss (t 8) (t 7))])
 (.seq (.cond (t 9)
 .skip
 (.exit 0))
 (.seq (.blk 1 (.seq (.reg [m 10 8,m 5 10])
 (.seq (.reg [m 11 1,m 12 0,m 13 5,o 14 (.iaS 2 (t 12) (t 13)),o 15 (.load true 2 (t 14)),o 16 (.callv (t 11) [(t 15)])])
 (.cond (t 16)
 (.seq (.reg [m 17 5,m 4 17])
 .ret)
 .skip))))
 (.reg [o 18 (b .add (t 8) (k 1)),m 8 18])))))))
 (.seq (.reg [o 4 (.mv (k (-1)))])
 .ret))),false⟩
def a502 : AFn := ⟨54,[.tmp 4,.tmp 5],
 (.seq (.reg [o 4 (.mv (k 0)),o 5 (.mv (.c (.d (.b false))))])
 (.seq (.reg [m 10 0,o 11 (.len 1 (t 10)),m 6 11])
 (.seq (.reg [m 12 6,o 7 (.mv (k 0)),m 8 12])
 (.seq (.blk 0 (.loop (.seq (.seq (.reg [m 13 7,m 14 8,o 15 (b .lss (t 13) (t 14))])
 (.cond (t 15)
 .skip
 (.exit 0)))
 (.blk 1 (.seq (.reg [m 16 7,m 17 8,o 18 (b .add (t 16) (t 17)),o 19 (.cvi .u64 (t 18)),o 20 (b .shr (t 19) (.c (.d (.i .u64 1)))),o 21 (.cvi .i64 (t 20)),m 9 21])
 (.seq (.reg [m 22 0,m 23 9,o 24 (.iaS 1 (t 22) (t 23)),l 25 24,m 26 1,o 27 (.callf 518 [(t 25),(t 26)])])
 (.cond (t 27)
 (.reg [m 28 9,o 29 (b .add (t 28) (k 1)),m 7 29])
 (.reg [m 30 9,m 8 30]))))))))
 (.seq (.reg [m 31 7,m 32 7,m 33 6,o 34 (b .lss (t 32) (t 33)),m 35 34,mg 36 0 35 true,mg 37 7 35 true,og 38 (.iaS 1 (t 36) (t 37)) 35 true,lg 39 38 35 true,mg 40 1 35 true,og 41 (b .eql (t 39) (t 40)) 35 true,mg 42 41 35 true,mg 43 0 42 false,mg 44 7 42 false,og 45 (.iaS 1 (t 43) (t 44)) 42 false,lg 46 45 42 false,og 47 (.callf 519 [(t 46)]) 42 false,mg 48 47 42 false,mg 49 1 48 true,og 50 (.callf 519 [(t 49)]) 48 true,og 51 (.pick (t 48) (t 50) (.c (.d (.b false)))) 42 false,og 52 (.pick (t 42) (.c (.d (.b true))) (t 51)) 35 true,o 53 (.pick (t 35) (t 52) (.c (.d (.b false)))),m 4 31,m 5 53])
 .ret))))),false⟩
def a508 : AFn := ⟨13,[.tmp 4],
 (.seq (.reg [o 4 (.mv (.c (.d (.b false))))])
 (.seq (.reg [m 5 1,o 6 (b .geq (t 5) (k 0)),m 7 6,mg 8 1 7 true,mg 9 0 7 true,og 10 (.callf 405 [(t 9)]) 7 true,og 11 (b .lss (t 8) (t 10)) 7 true,o 12 (.pick (t 7) (t 11) (.c (.d (.b false)))),m 4 12])
 .ret)),false⟩
def a509 : AFn := ⟨21,[.tmp 4,.tmp 5],
 (.seq (.reg [o 4 (.mv (.c .nilsl)),o 5 (.mv (.c (.d (.b false))))])
 (.seq (.reg [m 9 0,m 10 1,o 11 (.callf 502 [(t 9),(t 10)]),m 8 11,o 12 (.extr (t 8) 0),o 13 (.extr (t 8) 1),m 6 12,m 7 13])
 (.seq (.seq (.reg [m 14 7])
 (.cond (t 14)
 (.seq (.reg [m 15 0,m 4 15,o 5 (.mv (.c (.d (.b false))))])
 .ret)
 .skip))
 (.seq (.reg [m 16 0,m 17 6,m 18 1,o 19 (.bsl 3 1 1 [(.d (.i .i64 0))] [(0,1,(t 18))]),o 20 (.insrt 523 3 (t 16) (t 17) (t 19)),m 4 20,o 5 (.mv (.c (.d (.b true))))])
 .ret)))),true⟩
def a510 : AFn := ⟨13,[.tmp 4],
 (.seq (.reg [o 4 (.mv (.c (.d (.i .u32 0))))])
 (.seq (.seq (.reg [l 5 1,o 6 (.mv (k 0))])
 (.blk 0 (.loop (.seq (.reg [o 7 (b .lss (t 6) (t 5))])
 (.seq (.cond (t 7)
 .skip
 (.exit 0))
 (.seq (.blk 1 (.reg [l 8 2,m 9 0,o 10 (.callv (t 8) [(t 9)]),m 0 10]))
 (.reg [o 11 (b .add (t 6) (k 1)),m 6 11])))))))
 (.seq (.reg [m 12 0,m 4 12])
 .ret))),false⟩
def a514 : AFn := ⟨11,[.tmp 3],
 (.seq (.reg [o 3 (.mv (.c (.d (.b false))))])
 (.seq (.reg [o 4 (.fadd 6 (t 1)),l 5 4,m 6 0,o 7 (.iaS 16 (t 5) (t 6)),o 8 (.fadd 9 (t 7)),l 9 8,o 10 (b .neq (t 9) (.c (.d (.i .u8 4)))),m 3 10])
 .ret)),false⟩
def a568 : AFn := ⟨15,[],
 (.dreg 1 [⟨m 5 0,1,false,[],none⟩,⟨o 6 (.nilchk (t 5)),2,false,[],none⟩,⟨o 7 (.fadd 0 (t 6)),3,false,[],none⟩,⟨l 8 7,4,false,[],none⟩,⟨m 9 1,5,false,[],none⟩,⟨o 10 (.tas 167 true y11 false (t 9)),6,false,[],none⟩,⟨o 11 (.bsl 167 4 1 y11 [(0,4,(t 10))]),7,false,[],(some 0)⟩,⟨o 12 (.app 167 4 40 false (t 8) (t 11)),8,true,[],none⟩,⟨m 4 0,0,false,[],none⟩,⟨o 13 (.nilchk (t 4)),9,false,[8],none⟩,⟨o 14 (.fadd 0 (t 13)),10,false,[8],none⟩,⟨u (.store 1 (t 14) (t 12)),11,true,[],none⟩]),false⟩
end
end Go.Proofs.YtfbjkckdmigaoaaGreatDoor
