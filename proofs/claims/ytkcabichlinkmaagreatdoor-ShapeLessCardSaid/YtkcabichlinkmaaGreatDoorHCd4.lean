/- Compiled functions, by program. -/
import Derived.Test.YtkcabichlinkmaaGreatDoorHM7
namespace Go.EV
/- daybook/daybooklaw19.ShapeLess -/
def c4_0 : CC := .reg [
 O p4 (.mv (.c (.bool false))) 0] false
def c4_1 : CC := .reg [
 O p11 (.call (.c (.fn 17 [])) []) 0,
 O p5 (.mv X11) 1] false
def c4_2 : CC := .reg [
 O p12 (.mv X0) 0,
 O p13 (.call (.c (.fn 18 [])) [X12]) 1,
 O p14 (.bin .gtr .num X13 (.c (I 0))) 2,
 O p15 (.mv X14) 3,
 OG p16 p15 false (.mv X0) 4,
 OG p17 p15 false (.call (.c (.fn 19 [])) [X16]) 5,
 OG p18 p15 false (.bin .neq .num X17 (.c (I 0))) 6,
 O p19 (.pick X15 (.c (.bool true)) X18) 7,
 O p20 (.mv X19) 8,
 OG p21 p20 false (.mv X1) 9,
 OG p22 p20 false (.len 1 X21) 10,
 OG p23 p20 false (.bin .gtr .num X22 (.c (I 1000))) 11,
 O p24 (.pick X20 (.c (.bool true)) X23) 12,
 O p25 (.mv X24) 13,
 OG p26 p25 false (.mv X5) 14,
 OG p27 p25 false (.un .not X26) 15,
 O p28 (.pick X25 (.c (.bool true)) X27) 16] false
def c4_3 : CC := .reg [
 O p29 (.mv X5) 0,
 O p4 (.mv X29) 1] false
def c4_4 : CC := .reg [
 O p6 (.mv (.c .nils)) 0] false
def c4_5 : CC := .reg [
 O p7 (.mv (.c (I 0))) 0] false
def c4_6 : CC := .reg [
 O p30 (.mv X7) 0,
 O p31 (.mv X0) 1,
 O p32 (.len 1 X31) 2,
 O p33 (.bin .lss .num X30 X32) 3] false
def c4_7 : CC := .reg [
 O p36 (.mv X7) 0,
 O p37 (.mv X1) 1,
 O p38 (.len 1 X37) 2,
 O p39 (.bin .geq .num X36 X38) 3,
 O p40 (.mv X39) 4,
 OG p41 p40 false (.mv X1) 5,
 OG p42 p40 false (.mv X7) 6,
 OG p43 p40 false (.iaddr 1 X41 X42) 7,
 OG p44 p40 false (.load 1 false X43) 8,
 OG p45 p40 false (.un .not X44) 9,
 O p46 (.pick X40 (.c (.bool true)) X45) 10] false
def c4_8 : CC := .reg [
 O p47 (.mv X6) 0,
 O p48 (.mv X0) 1,
 O p49 (.mv X7) 2,
 O p50 (.iaddr 11 X48 X49) 3,
 O p51 (.load 11 true X50) 4,
 O p52 (.bslice 44 11 [(.bool false), (.str []), (.bool false), I 0, (.bool false), I 0, I 0, (.str []), (.bool false), .nils, I 0] 1 [(0, X51)]) 5,
 O p53 (.append 44 11 X47 X52) 6,
 O p6 (.mv X53) 7] false
def c4_9 : CC := .reg [
 O p34 (.mv X7) 0,
 O p35 (.bin .add .num X34 (.c (I 1))) 1,
 O p7 (.mv X35) 2] false
def c4_10 : CC := .loop (.seq (.seq c4_6 (.cond X33 .skip (.exit 0))) (.seq (.blk 1 (.seq c4_7 (.cond X46 c4_8 .skip))) c4_9))
def c4_11 : CC := .reg [
 O p54 (.mv X6) 0,
 O p55 (.build [(.bool false), (.str []), (.bool false), I 0, (.bool false), I 0, I 0, (.str []), (.bool false), .nils, I 0] [(1, 1, (.c (.str [97, 47, 98]))), (8, 1, (.c (.bool true))), (9, 1, X54)]) 1,
 O p8 (.alloc 44 [(.bool false), (.str []), (.bool false), I 0, (.bool false), I 0, I 0, (.str []), (.bool false), .nils, I 0]) 2,
 ON (.store 11 X8 X55) 3] false
def c4_12 : CC := .reg [
 O p56 (.load 11 true X8) 0,
 O p57 (.bslice 44 11 [(.bool false), (.str []), (.bool false), I 0, (.bool false), I 0, I 0, (.str []), (.bool false), .nils, I 0] 1 [(0, X56)]) 1,
 O p58 (.call (.c (.fn 19 [])) [X57]) 2,
 O p9 (.mv X58) 3] false
def c4_13 : CC := .reg [
 O p59 (.load 11 true X8) 0,
 O p60 (.bslice 44 11 [(.bool false), (.str []), (.bool false), I 0, (.bool false), I 0, I 0, (.str []), (.bool false), .nils, I 0] 1 [(0, X59)]) 1,
 O p61 (.call (.c (.fn 20 [])) [X60]) 2,
 O p10 (.mv X61) 3] false
def c4_14 : CC := .reg [
 O p62 (.mv X5) 0,
 O p63 (.mv X62) 1,
 OG p64 p63 true (.mv X6) 2,
 OG p65 p63 true (.call (.c (.fn 19 [])) [X64]) 3,
 OG p66 p63 true (.bin .eql .num X65 (.c (I 0))) 4,
 O p67 (.pick X63 X66 (.c (.bool false))) 5,
 O p68 (.mv X67) 6,
 OG p69 p68 true (.mv X9) 7,
 OG p70 p68 true (.bin .eql .num X69 (.c (I 0))) 8,
 OG p71 p68 true (.mv X10) 9,
 OG p72 p68 true (.bin .eql .bool X70 X71) 10,
 O p73 (.pick X68 X72 (.c (.bool false))) 11,
 O p4 (.mv X73) 12] false
def F4 : CF := .mk 74 [p0, p1] 7 (.seq c4_0 (.seq c4_1 (.seq (.seq c4_2 (.cond X28 (.seq c4_3 .ret) .skip)) (.seq c4_4 (.seq (.seq c4_5 (.blk 0 c4_10)) (.seq c4_11 (.seq c4_12 (.seq c4_13 (.seq c4_14 .ret))))))))) [.t p4] 3
/- daybook/shape.Parse -/
def c11_0 : CC := .reg [
 O p2 (.mv (.c .nils)) 0,
 O p3 (.mv (.c (I 0))) 1] false
def c11_1 : CC := .reg [
 O p9 (.mv X0) 0,
 O p10 (.call (.c (.fn 38 [])) [X9]) 1,
 O p8 (.mv X10) 2,
 O p11 (.ext 0 X8) 3,
 O p12 (.ext 1 X8) 4,
 O p13 (.ext 2 X8) 5,
 O p14 (.ext 3 X8) 6,
 O p4 (.mv X11) 7,
 O p5 (.mv X12) 8,
 O p6 (.mv X13) 9,
 O p7 (.mv X14) 10] false
def c11_2 : CC := .reg [
 O p15 (.mv X7) 0,
 O p16 (.bin .neq .num X15 (.c (I 0))) 1] false
def c11_3 : CC := .reg [
 O p17 (.mv X7) 0,
 O p2 (.mv (.c .nils)) 1,
 O p3 (.mv X17) 2] false
def c11_4 : CC := .reg [
 O p18 (.mv X4) 0,
 O p19 (.len 1 X18) 1,
 O p20 (.bin .neq .num X19 (.c (I 1))) 2] false
def c11_5 : CC := .reg [
 O p2 (.mv (.c .nils)) 0,
 O p3 (.mv (.c (I 190))) 1] false
def c11_6 : CC := .reg [
 O p21 (.mv X4) 0,
 O p22 (.iaddr 8 X21 (.c (I 0))) 1,
 O p23 (.load 8 true X22) 2,
 O p24 (.call (.c (.fn 15 [])) [X23]) 3,
 O p25 (.ext 0 X24) 4,
 O p26 (.ext 1 X24) 5,
 O p2 (.mv X25) 6,
 O p3 (.mv X26) 7] false
def F11 : CF := .mk 27 [p0] 5 (.seq c11_0 (.seq c11_1 (.seq (.seq c11_2 (.cond X16 (.seq c11_3 .ret) .skip)) (.seq (.seq c11_4 (.cond X20 (.seq c11_5 .ret) .skip)) (.seq c11_6 .ret))))) [.t p2, .t p3] 3
/- daybook/shape.Read -/
def c15_0 : CC := .reg [
 O p1 (.box 36 X0) 0,
 O p2 (.mv (.c .nils)) 1,
 O p3 (.mv (.c (I 0))) 2] false
def c15_1 : CC := .reg [
 O p7 (.load 8 true X1) 0,
 O p8 (.call (.c (.fn 41 [])) [X7, (.c (I 1))]) 1,
 O p6 (.mv X8) 2,
 O p9 (.ext 0 X6) 3,
 O p10 (.ext 1 X6) 4,
 O p4 (.mv X9) 5,
 O p5 (.mv X10) 6] false
def c15_2 : CC := .reg [
 O p11 (.mv X5) 0,
 O p12 (.un .not X11) 1,
 O p13 (.mv X12) 2,
 OG p14 p13 false (.mv X4) 3,
 OG p15 p13 false (.call (.c (.fn 42 [])) [X14]) 4,
 OG p16 p13 false (.un .not X15) 5,
 O p17 (.pick X13 (.c (.bool true)) X16) 6] false
def c15_3 : CC := .reg [
 O p2 (.mv (.c .nils)) 0,
 O p3 (.mv (.c (I 190))) 1] false
def c15_4 : CC := .reg [
 .mk (some p18) none (.load 8 true X1) [2] 0,
 O p19 (.mv X4) 1,
 O p20 (.call (.c (.fn 44 [])) [X19]) 2,
 O p21 (.call (.c (.fn 43 [])) [X18, X20]) 3,
 O p22 (.un .not X21) 4] true
def c15_5 : CC := .reg [
 O p2 (.mv (.c .nils)) 0,
 O p3 (.mv (.c (I 190))) 1] false
def c15_6 : CC := .reg [
 O p23 (.mv X4) 0,
 O p2 (.mv X23) 1,
 O p3 (.mv (.c (I 0))) 2] false
def F15 : CF := .mk 24 [p0] 5 (.seq c15_0 (.seq c15_1 (.seq (.seq c15_2 (.cond X17 (.seq c15_3 .ret) .skip)) (.seq (.seq c15_4 (.cond X22 (.seq c15_5 .ret) .skip)) (.seq c15_6 .ret))))) [.t p2, .t p3] 3
/- daybook/daybooklaw19.alive -/
def c17_0 : CC := .reg [
 O p0 (.mv (.c (.bool false))) 0] false
def c17_1 : CC := .reg [
 O p4 (.call (.c (.fn 11 [])) [(.c (.str [91, 42, 32, 58, 97, 47, 98, 32, 40, 58, 97, 47, 99, 32, 108, 105, 109, 105, 116, 32, 51, 41, 32, 40, 58, 97, 47, 100, 32, 98, 97, 99, 107, 41, 93]))]) 0,
 O p3 (.mv X4) 1,
 O p5 (.ext 0 X3) 2,
 O p6 (.ext 1 X3) 3,
 O p1 (.mv X5) 4,
 O p2 (.mv X6) 5] false
def c17_2 : CC := .reg [
 O p7 (.mv X2) 0,
 O p8 (.bin .eql .num X7 (.c (I 0))) 1,
 O p9 (.mv X8) 2,
 OG p10 p9 true (.mv X1) 3,
 OG p11 p9 true (.len 1 X10) 4,
 OG p12 p9 true (.bin .eql .num X11 (.c (I 4))) 5,
 O p13 (.pick X9 X12 (.c (.bool false))) 6,
 O p14 (.mv X13) 7,
 OG p15 p14 true (.mv X1) 8,
 OG p16 p14 true (.iaddr 11 X15 (.c (I 0))) 9,
 OG p17 p14 true (.faddr 0 X16) 10,
 OG p18 p14 true (.load 1 false X17) 11,
 O p19 (.pick X14 X18 (.c (.bool false))) 12,
 O p20 (.mv X19) 13,
 OG p21 p20 true (.mv X1) 14,
 OG p22 p20 true (.iaddr 11 X21 (.c (I 1))) 15,
 OG p23 p20 true (.faddr 1 X22) 16,
 OG p24 p20 true (.load 1 false X23) 17,
 OG p25 p20 true (.bin .eql .num X24 (.c (.str [97, 47, 98]))) 18,
 O p26 (.pick X20 X25 (.c (.bool false))) 19,
 O p27 (.mv X26) 20,
 OG p28 p27 true (.mv X1) 21,
 OG p29 p27 true (.iaddr 11 X28 (.c (I 2))) 22,
 OG p30 p27 true (.faddr 3 X29) 23,
 OG p31 p27 true (.load 1 false X30) 24,
 OG p32 p27 true (.bin .eql .num X31 (.c (I 3))) 25,
 O p33 (.pick X27 X32 (.c (.bool false))) 26,
 O p34 (.mv X33) 27,
 OG p35 p34 true (.mv X1) 28,
 OG p36 p34 true (.iaddr 11 X35 (.c (I 3))) 29,
 OG p37 p34 true (.faddr 2 X36) 30,
 OG p38 p34 true (.load 1 false X37) 31,
 O p39 (.pick X34 X38 (.c (.bool false))) 32,
 O p0 (.mv X39) 33] false
def F17 : CF := .mk 40 [] 6 (.seq c17_0 (.seq c17_1 (.seq c17_2 .ret))) [.t p0] 3
/- daybook/daybookref19.Great -/
def c18_0 : CC := .reg [
 O p2 (.mv (.c (I 0))) 0] false
def c18_1 : CC := .reg [
 O p4 (.mv X0) 0,
 O p5 (.call (.c (.fn 48 [])) [X4, (.c (I 0))]) 1,
 O p3 (.mv X5) 2] false
def c18_2 : CC := .reg [
 O p6 (.mv X3) 0,
 O p7 (.bin .gtr .num X6 (.c (I 200))) 1] false
def c18_3 : CC := .reg [
 O p2 (.mv (.c (I 1))) 0] false
def c18_4 : CC := .reg [
 O p2 (.mv (.c (I 0))) 0] false
def F18 : CF := .mk 8 [p0] 4 (.seq c18_0 (.seq c18_1 (.seq (.seq c18_2 (.cond X7 (.seq c18_3 .ret) .skip)) (.seq c18_4 .ret)))) [.t p2] 3
/- daybook/shape.Check -/
def c19_0 : CC := .reg [
 O p2 (.mv (.c (I 0))) 0] false
def c19_1 : CC := .reg [
 O p3 (.mv X0) 0,
 O p4 (.call (.c (.fn 42 [])) [X3]) 1,
 O p5 (.un .not X4) 2] false
def c19_2 : CC := .reg [
 O p2 (.mv (.c (I 190))) 0] false
def c19_3 : CC := .reg [
 O p2 (.mv (.c (I 0))) 0] false
def F19 : CF := .mk 6 [p0] 3 (.seq c19_0 (.seq (.seq c19_1 (.cond X5 (.seq c19_2 .ret) .skip)) (.seq c19_3 .ret))) [.t p2] 3
/- daybook/daybookref19.May -/
def c20_0 : CC := .reg [
 O p2 (.mv (.c (.bool false))) 0] false
def c20_1 : CC := .reg [
 O p6 (.mv X0) 0,
 O p7 (.call (.c (.fn 49 [])) [X6, (.c (I 1))]) 1,
 O p5 (.mv X7) 2,
 O p8 (.ext 0 X5) 3,
 O p9 (.ext 1 X5) 4,
 O p3 (.mv X8) 5,
 O p4 (.mv X9) 6] false
def c20_2 : CC := .reg [
 O p10 (.mv X3) 0,
 O p11 (.bin .leq .num X10 (.c (I 1000))) 1,
 O p12 (.mv X11) 2,
 OG p13 p12 true (.mv X4) 3,
 OG p14 p12 true (.bin .leq .num X13 (.c (I 20))) 4,
 O p15 (.pick X12 X14 (.c (.bool false))) 5,
 O p16 (.mv X15) 6,
 OG p17 p16 true (.mv X0) 7,
 OG p18 p16 true (.call (.c (.fn 50 [])) [X17]) 8,
 O p19 (.pick X16 X18 (.c (.bool false))) 9,
 O p2 (.mv X19) 10] false
def F20 : CF := .mk 20 [p0] 5 (.seq c20_0 (.seq c20_1 (.seq c20_2 .ret))) [.t p2] 3
/- daybook/text.Parse -/
def c38_0 : CC := .reg [
 O p2 (.alloc 29 [.nils]) 0,
 O p3 (.alloc 3 [I 0]) 1,
 O p4 (.alloc 3 [I 0]) 2,
 O p5 (.alloc 23 [I 0]) 3] false
def c38_1 : CC := .reg [
 O p16 (.bslice 29 1 [.nils] 1 [(0, (.c .nils))]) 0,
 O p6 (.alloc 119 [.nils]) 1,
 ON (.store 1 X6 X16) 2] false
def c38_2 : CC := .reg [
 O p7 (.alloc 29 [.nils]) 0] false
def c38_3 : CC := .reg [
 O p8 (.alloc 3 [I 0]) 0,
 ON (.store 1 X8 (.c (I 0))) 1] false
def c38_4 : CC := .reg [
 O p17 (.mv X0) 0,
 O p18 (.call (.c (.fn 64 [])) [X17]) 1] false
def c38_5 : CC := .reg [
 O p9 (.alloc 124 [(.str []), I 0, I 0, (.bool false)]) 0,
 ON (.store 4 X9 X19) 1] false
def c38_6 : CC := .reg [
 O p20 (.load 1 false X6) 0,
 O p21 (.len 1 X20) 1,
 O p22 (.bin .sub .num X21 (.c (I 1))) 2,
 O p10 (.mv X22) 3] false
def c38_7 : CC := .reg [
 O p23 (.faddr 1 X9) 0,
 O p24 (.load 1 false X23) 1,
 O p25 (.faddr 2 X9) 2,
 O p26 (.load 1 false X25) 3,
 O p27 (.build [I 0, I 0, I 0, (.str []), (.str []), .nils, I 0, I 0] [(6, 1, X24), (7, 1, X26)]) 4,
 O p11 (.alloc 36 [I 0, I 0, I 0, (.str []), (.str []), .nils, I 0, I 0]) 5,
 ON (.store 8 X11 X27) 6] false
def c38_8 : CC := .reg [
 O p29 (.faddr 3 X9) 0,
 O p30 (.load 1 false X29) 1,
 O p31 (.mv X30) 2,
 OG p32 p31 false (.faddr 0 X9) 3,
 OG p33 p31 false (.load 1 false X32) 4,
 OG p34 p31 false (.bin .eql .num X33 (.c (.str []))) 5,
 OG p35 p31 false (.mv X34) 6,
 OG p36 p35 true (.mv X10) 7,
 OG p37 p35 true (.bin .gtr .num X36 (.c (I 0))) 8,
 OG p38 p31 false (.pick X35 X37 (.c (.bool false))) 9,
 O p39 (.pick X31 (.c (.bool true)) X38) 10,
 O p28 (.mv X39) 11] false
def c38_9 : CC := .reg [
 O p40 (.faddr 1 X9) 0,
 .mk (some p41) none (.load 1 false X40) [4] 1,
 O p42 (.faddr 2 X9) 2,
 .mk (some p43) none (.load 1 false X42) [4, 5] 3,
 ON (.store 1 X2 (.c .nils)) 4,
 ON (.store 1 X3 X41) 5,
 ON (.store 1 X4 X43) 6,
 ON (.store 1 X5 (.c (I 50))) 7] true
def c38_10 : CC := .reg [
 O p45 (.faddr 0 X9) 0,
 O p46 (.load 1 false X45) 1,
 O p47 (.bin .eql .num X46 (.c (.str []))) 2,
 O p44 (.mv X47) 3] false
def c38_11 : CC := .reg [
 O p48 (.load 1 false X6) 0,
 O p49 (.iaddr 1 X48 (.c (I 0))) 1,
 O p50 (.load 1 false X49) 2,
 ON (.store 1 X2 X50) 3,
 ON (.store 1 X3 (.c (I 0))) 4,
 ON (.store 1 X4 (.c (I 0))) 5,
 ON (.store 1 X5 (.c (I 0))) 6] false
def c38_12 : CC := .reg [
 O p52 (.faddr 0 X9) 0,
 O p53 (.load 1 false X52) 1,
 O p54 (.call (.c (.fn 65 [])) [(.c (.str [41, 93, 125])), X53]) 2,
 O p51 (.mv X54) 3] false
def c38_13 : CC := .reg [
 O p55 (.faddr 0 X9) 0,
 O p56 (.load 1 false X55) 1,
 O p57 (.call (.c (.fn 66 [])) [(.c (.str [41, 93, 125])), X56]) 2,
 O p12 (.mv X57) 3] false
def c38_14 : CC := .reg [
 O p58 (.mv X10) 0,
 O p59 (.bin .eql .num X58 (.c (I 0))) 1,
 O p60 (.mv X59) 2,
 OG p61 p60 false (.load 1 false X7) 3,
 OG p62 p60 false (.mv X10) 4,
 OG p63 p60 false (.bin .sub .num X62 (.c (I 1))) 5,
 OG p64 p60 false (.iaddr 8 X61 X63) 6,
 OG p65 p60 false (.faddr 0 X64) 7,
 OG p66 p60 false (.load 1 false X65) 8,
 OG p67 p60 false (.mv X12) 9,
 OG p68 p60 false (.bin .add .num (.c (I 3)) X67) 10,
 OG p69 p60 false (.bin .neq .num X66 X68) 11,
 O p70 (.pick X60 (.c (.bool true)) X69) 12] false
def c38_15 : CC := .reg [
 O p71 (.faddr 1 X9) 0,
 .mk (some p72) none (.load 1 false X71) [4] 1,
 O p73 (.faddr 2 X9) 2,
 .mk (some p74) none (.load 1 false X73) [4, 5] 3,
 ON (.store 1 X2 (.c .nils)) 4,
 ON (.store 1 X3 X72) 5,
 ON (.store 1 X4 X74) 6,
 ON (.store 1 X5 (.c (I 50))) 7] true
def c38_16 : CC := .reg [
 O p75 (.load 1 false X7) 0,
 O p76 (.mv X10) 1,
 O p77 (.bin .sub .num X76 (.c (I 1))) 2,
 O p78 (.iaddr 8 X75 X77) 3,
 O p79 (.load 8 true X78) 4,
 ON (.store 8 X11 X79) 5] false
def c38_17 : CC := .reg [
 O p80 (.load 1 false X6) 0,
 O p81 (.mv X10) 1,
 O p82 (.iaddr 1 X80 X81) 2,
 O p83 (.load 1 false X82) 3,
 O p84 (.faddr 5 X11) 4,
 ON (.store 1 X84 X83) 5] false
def c38_18 : CC := .reg [
 O p85 (.load 1 false X6) 0,
 O p86 (.mv X10) 1,
 O p87 (.slice 1 X85 none (some X86) none) 2,
 .mk (some p88) none (.load 1 false X7) [7] 3,
 O p89 (.mv X10) 4,
 O p90 (.bin .sub .num X89 (.c (I 1))) 5,
 O p91 (.slice 8 X88 none (some X90) none) 6,
 ON (.store 1 X6 X87) 7,
 ON (.store 1 X7 X91) 8] true
def c38_19 : CC := .reg [
 O p94 (.load 1 false X6) 0,
 O p95 (.mv X10) 1,
 O p96 (.bin .sub .num X95 (.c (I 1))) 2,
 O p97 (.load 1 false X6) 3,
 O p98 (.mv X10) 4,
 O p99 (.bin .sub .num X98 (.c (I 1))) 5,
 O p100 (.iaddr 1 X97 X99) 6,
 O p101 (.load 1 false X100) 7,
 O p102 (.load 8 true X11) 8,
 O p103 (.len 1 X101) 9,
 O p104 (.bslice 36 8 [I 0, I 0, I 0, (.str []), (.str []), .nils, I 0, I 0] 1 [(0, (.c (.agg [I 0, I 0, I 0, (.str []), (.str []), .nils, I 0, I 0])))]) 10,
 O p105 (.append 36 8 X101 X104) 11,
 O p106 (.iaddr 1 X94 X96) 12,
 ON (.store 1 X106 X105) 13] true
def c38_20 : CC := .reg [
 O p107 (.iaddr 8 X105 X103) 0,
 ON (.store 8 X107 X102) 1] false
def c38_21 : CC := .reg [
 .mk (some p108) none (.load 1 false X6) [10] 0,
 O p109 (.mv X10) 1,
 O p110 (.bin .sub .num X109 (.c (I 1))) 2,
 O p111 (.load 1 false X6) 3,
 O p112 (.mv X10) 4,
 O p113 (.bin .sub .num X112 (.c (I 1))) 5,
 O p114 (.iaddr 1 X111 X113) 6,
 O p115 (.load 1 false X114) 7,
 O p116 (.load 8 true X11) 8,
 O p117 (.bslice 36 8 [I 0, I 0, I 0, (.str []), (.str []), .nils, I 0, I 0] 1 [(0, X116)]) 9,
 O p118 (.append 36 8 X115 X117) 10,
 O p119 (.iaddr 1 X108 X110) 11,
 ON (.store 1 X119 X118) 12] true
def c38_22 : CC := .reg [
 O p120 (.load 1 false X8) 0,
 O p121 (.bin .add .num X120 (.c (I 1))) 1,
 ON (.store 1 X8 X121) 2] false
def c38_23 : CC := .reg [
 O p122 (.load 1 false X8) 0,
 O p123 (.bin .gtr .num X122 (.c (I 5000))) 1] false
def c38_24 : CC := .reg [
 O p124 (.faddr 1 X9) 0,
 .mk (some p125) none (.load 1 false X124) [4] 1,
 O p126 (.faddr 2 X9) 2,
 .mk (some p127) none (.load 1 false X126) [4, 5] 3,
 ON (.store 1 X2 (.c .nils)) 4,
 ON (.store 1 X3 X125) 5,
 ON (.store 1 X4 X127) 6,
 ON (.store 1 X5 (.c (I 50))) 7] true
def c38_25 : CC := .reg [
 O p128 (.faddr 0 X9) 0,
 O p129 (.load 1 false X128) 1,
 O p130 (.call (.c (.fn 66 [])) [(.c (.str [40, 91, 123])), X129]) 2,
 O p13 (.mv X130) 3] false
def c38_26 : CC := .reg [
 O p131 (.mv X13) 0,
 O p132 (.bin .geq .num X131 (.c (I 0))) 1] false
def c38_27 : CC := .reg [
 O p133 (.mv X10) 0,
 O p134 (.bin .eql .num X133 (.c (I 50))) 1] false
def c38_28 : CC := .reg [
 O p135 (.faddr 1 X9) 0,
 .mk (some p136) none (.load 1 false X135) [4] 1,
 O p137 (.faddr 2 X9) 2,
 .mk (some p138) none (.load 1 false X137) [4, 5] 3,
 ON (.store 1 X2 (.c .nils)) 4,
 ON (.store 1 X3 X136) 5,
 ON (.store 1 X4 X138) 6,
 ON (.store 1 X5 (.c (I 50))) 7] true
def c38_29 : CC := .reg [
 O p139 (.mv X13) 0,
 O p140 (.bin .add .num (.c (I 3)) X139) 1,
 O p141 (.faddr 0 X11) 2,
 ON (.store 1 X141 X140) 3] false
def c38_30 : CC := .reg [
 O p142 (.load 1 false X6) 0,
 O p143 (.bslice 29 1 [.nils] 1 [(0, (.c .nils))]) 1,
 .mk (some p145) none (.load 1 false X7) [5] 3,
 .mk (some p146) none (.load 8 true X11) [5] 4,
 .mk (some p147) none (.bslice 36 8 [I 0, I 0, I 0, (.str []), (.str []), .nils, I 0, I 0] 1 [(0, X146)]) [5] 5,
 O p144 (.append 29 1 X142 X143) 2,
 O p148 (.append 36 8 X145 X147) 6,
 ON (.store 1 X6 X144) 7,
 ON (.store 1 X7 X148) 8] true
def c38_31 : CC := .reg [
 O p150 (.faddr 0 X9) 0,
 O p151 (.load 1 false X150) 1,
 O p152 (.call (.c (.fn 67 [])) [X151]) 2,
 O p149 (.mv X152) 3,
 O p153 (.ext 0 X149) 4,
 O p154 (.ext 1 X149) 5,
 O p14 (.alloc 34 [I 0, I 0, (.str [])]) 6,
 ON (.store 3 X14 X153) 7,
 O p15 (.mv X154) 8] false
def c38_32 : CC := .reg [
 O p160 (.mv X15) 0,
 O p161 (.bin .eql .num X160 (.c (I 0))) 1,
 O p159 (.mv X161) 2] false
def c38_33 : CC := .reg [
 .mk (some p162) none (.load 3 true X14) [2] 0,
 O p163 (.faddr 0 X11) 1,
 ON (.store 1 X163 (.c (I 1))) 2,
 O p164 (.faddr 1 X11) 3,
 ON (.store 3 X164 X162) 4] true
def c38_34 : CC := .reg [
 O p166 (.faddr 0 X9) 0,
 O p167 (.load 1 false X166) 1,
 O p168 (.call (.c (.fn 68 [])) [X167]) 2,
 O p165 (.mv X168) 3] false
def c38_35 : CC := .reg [
 O p169 (.faddr 0 X9) 0,
 .mk (some p170) none (.load 1 false X169) [3] 1,
 O p171 (.faddr 0 X11) 2,
 ON (.store 1 X171 (.c (I 2))) 3,
 O p172 (.faddr 4 X11) 4,
 ON (.store 1 X172 X170) 5] true
def c38_36 : CC := .reg [
 O p155 (.faddr 1 X9) 0,
 .mk (some p156) none (.load 1 false X155) [4] 1,
 O p157 (.faddr 2 X9) 2,
 .mk (some p158) none (.load 1 false X157) [4, 5] 3,
 ON (.store 1 X2 (.c .nils)) 4,
 ON (.store 1 X3 X156) 5,
 ON (.store 1 X4 X158) 6,
 ON (.store 1 X5 (.c (I 50))) 7] true
def c38_37 : CC := .reg [
 O p175 (.load 1 false X6) 0,
 O p176 (.mv X10) 1,
 O p177 (.iaddr 1 X175 X176) 2,
 O p178 (.load 1 false X177) 3,
 O p179 (.load 8 true X11) 4,
 O p180 (.len 1 X178) 5,
 O p181 (.bslice 36 8 [I 0, I 0, I 0, (.str []), (.str []), .nils, I 0, I 0] 1 [(0, (.c (.agg [I 0, I 0, I 0, (.str []), (.str []), .nils, I 0, I 0])))]) 6,
 O p182 (.append 36 8 X178 X181) 7,
 O p183 (.iaddr 1 X175 X176) 8,
 ON (.store 1 X183 X182) 9] true
def c38_38 : CC := .reg [
 O p184 (.iaddr 8 X182 X180) 0,
 ON (.store 8 X184 X179) 1] false
def c38_39 : CC := .reg [
 .mk (some p185) none (.load 1 false X6) [8] 0,
 O p186 (.mv X10) 1,
 O p187 (.load 1 false X6) 2,
 O p188 (.mv X10) 3,
 O p189 (.iaddr 1 X187 X188) 4,
 O p190 (.load 1 false X189) 5,
 O p191 (.load 8 true X11) 6,
 O p192 (.bslice 36 8 [I 0, I 0, I 0, (.str []), (.str []), .nils, I 0, I 0] 1 [(0, X191)]) 7,
 O p193 (.append 36 8 X190 X192) 8,
 O p194 (.iaddr 1 X185 X186) 9,
 ON (.store 1 X194 X193) 10] true
def c38_40 : CC := .rng X18 [p19] c38_5 (.blk 1 (.seq c38_6 (.seq c38_7 (.seq (.blk 2 (.seq c38_8 (.cond X28 (.seq c38_9 .ret) (.seq c38_10 (.cond X44 (.seq c38_11 .ret) (.seq c38_12 (.cond X51 (.seq c38_13 (.seq (.seq c38_14 (.cond X70 (.seq c38_15 .ret) .skip)) (.seq c38_16 (.seq c38_17 (.seq c38_18 (.seq (.coin p92 p93 (.seq c38_19 c38_20) c38_21) (.exit 1))))))) .skip))))))) (.seq (.seq c38_22 (.seq c38_23 (.cond X123 (.seq c38_24 .ret) .skip))) (.seq (.seq c38_25 (.seq c38_26 (.cond X132 (.seq (.seq c38_27 (.cond X134 (.seq c38_28 .ret) .skip)) (.seq c38_29 (.seq c38_30 (.exit 1)))) .skip))) (.seq c38_31 (.seq (.blk 3 (.seq c38_32 (.cond X159 c38_33 (.seq c38_34 (.cond X165 c38_35 (.seq c38_36 .ret)))))) (.coin p173 p174 (.seq c38_37 c38_38) c38_39)))))))))
def c38_41 : CC := .reg [
 ON (.store 1 X2 (.c .nils)) 0,
 ON (.store 1 X3 (.c (I 0))) 1,
 ON (.store 1 X4 (.c (I 0))) 2,
 ON (.store 1 X5 (.c (I 0))) 3] false
def F38 : CF := .mk 195 [p0] 8 (.seq c38_0 (.seq c38_1 (.seq c38_2 (.seq c38_3 (.seq (.seq c38_4 (.blk 0 c38_40)) (.seq c38_41 .ret)))))) [.cell p2 1 false, .cell p3 1 false, .cell p4 1 false, .cell p5 1 false] 3
/- daybook/shape.items -/
def c41_0 : CC := .reg [
 O p2 (.box 36 X0) 0,
 O p4 (.mv (.c .nils)) 1,
 O p5 (.mv (.c (.bool false))) 2] false
def c41_1 : CC := .reg [
 O p12 (.faddr 0 X2) 0,
 O p13 (.load 1 false X12) 1,
 O p14 (.bin .neq .num X13 (.c (I 4))) 2,
 O p15 (.mv X14) 3,
 OG p16 p15 false (.mv X1) 4,
 OG p17 p15 false (.bin .gtr .num X16 (.c (I 20))) 5,
 O p18 (.pick X15 (.c (.bool true)) X17) 6] false
def c41_2 : CC := .reg [
 O p4 (.mv (.c .nils)) 0,
 O p5 (.mv (.c (.bool false))) 1] false
def c41_3 : CC := .reg [
 O p6 (.mv (.c .nils)) 0] false
def c41_4 : CC := .reg [
 O p7 (.mv (.c (.bool true))) 0] false
def c41_5 : CC := .reg [
 O p19 (.faddr 5 X2) 0,
 O p20 (.load 1 false X19) 1,
 O p21 (.len 1 X20) 2,
 O p22 (.mv (.c (I 0))) 3] false
def c41_6 : CC := .reg [
 O p23 (.bin .lss .num X22 X21) 0] false
def c41_7 : CC := .reg [
 O p24 (.iaddr 8 X20 X22) 0,
 O p25 (.load 8 true X24) 1,
 O p9 (.alloc 36 [I 0, I 0, I 0, (.str []), (.str []), .nils, I 0, I 0]) 2,
 ON (.store 8 X9 X25) 3] false
def c41_8 : CC := .reg [
 O p27 (.load 8 true X9) 0,
 O p28 (.mv X1) 1,
 O p29 (.call (.c (.fn 72 [])) [X27, X28]) 2,
 O p26 (.mv X29) 3,
 O p30 (.ext 0 X26) 4,
 O p31 (.ext 1 X26) 5,
 O p10 (.alloc 44 [(.bool false), (.str []), (.bool false), I 0, (.bool false), I 0, I 0, (.str []), (.bool false), .nils, I 0]) 6,
 ON (.store 11 X10 X30) 7,
 O p11 (.mv X31) 8] false
def c41_9 : CC := .reg [
 O p32 (.mv X11) 0,
 O p33 (.un .not X32) 1] false
def c41_10 : CC := .reg [
 O p7 (.mv (.c (.bool false))) 0] false
def c41_11 : CC := .reg [
 O p34 (.mv X6) 0,
 O p35 (.load 11 true X10) 1,
 O p36 (.bslice 44 11 [(.bool false), (.str []), (.bool false), I 0, (.bool false), I 0, I 0, (.str []), (.bool false), .nils, I 0] 1 [(0, X35)]) 2,
 O p37 (.append 44 11 X34 X36) 3,
 O p6 (.mv X37) 4] false
def c41_12 : CC := .reg [
 O p38 (.bin .add .num X22 (.c (I 1))) 0,
 O p22 (.mv X38) 1] false
def c41_13 : CC := .loop (.seq c41_6 (.seq (.cond X23 .skip (.exit 0)) (.seq (.blk 1 (.seq c41_7 (.seq c41_8 (.seq (.seq c41_9 (.cond X33 (.seq c41_10 (.exit 0)) .skip)) c41_11)))) c41_12)))
def c41_14 : CC := .reg [
 O p39 (.mv X6) 0,
 O p40 (.mv X7) 1,
 O p4 (.mv X39) 2,
 O p5 (.mv X40) 3] false
def F41 : CF := .mk 41 [p0, p1] 6 (.seq c41_0 (.scope (.seq (.seq c41_1 (.cond X18 (.seq c41_2 .ret) .skip)) (.seq c41_3 (.seq c41_4 (.seq .skip (.seq (.seq c41_5 (.blk 0 c41_13)) (.seq c41_14 .ret)))))))) [.t p4, .t p5] 3
/- daybook/shape.may -/
def c42_0 : CC := .reg [
 O p2 (.alloc 4 [(.bool false)]) 0] false
def c42_1 : CC := .reg [
 O p3 (.alloc 3 [I 0]) 0,
 ON (.store 1 X3 (.c (I 0))) 1] false
def c42_2 : CC := .reg [
 O p8 (.mv X0) 0,
 O p9 (.call (.c (.fn 73 [])) [X8, (.c (I 1))]) 1] false
def c42_3 : CC := .reg [
 O p4 (.mv X10) 0] false
def c42_4 : CC := .reg [
 O p5 (.mv X11) 0] false
def c42_5 : CC := .reg [
 O p12 (.load 1 false X3) 0,
 O p13 (.mv X5) 1,
 O p14 (.len 1 X13) 2,
 O p15 (.bin .add .num X12 X14) 3,
 ON (.store 1 X3 X15) 4] false
def c42_6 : CC := .reg [
 O p16 (.mv X4) 0,
 O p17 (.bin .gtr .num X16 (.c (I 20))) 1,
 O p18 (.mv X17) 2,
 OG p19 p18 false (.load 1 false X3) 3,
 OG p20 p18 false (.bin .gtr .num X19 (.c (I 1000))) 4,
 O p21 (.pick X18 (.c (.bool true)) X20) 5] false
def c42_7 : CC := .reg [
 ON (.store 1 X2 (.c (.bool false))) 0] false
def c42_8 : CC := .reg [
 O p22 (.mv X5) 0,
 O p23 (.len 1 X22) 1,
 O p24 (.mv (.c (I 0))) 2] false
def c42_9 : CC := .reg [
 O p25 (.bin .lss .num X24 X23) 0] false
def c42_10 : CC := .reg [
 O p26 (.mv X24) 0,
 O p27 (.iaddr 11 X22 X24) 1,
 O p28 (.load 11 true X27) 2,
 O p7 (.alloc 44 [(.bool false), (.str []), (.bool false), I 0, (.bool false), I 0, I 0, (.str []), (.bool false), .nils, I 0]) 3,
 O p6 (.mv X26) 4,
 ON (.store 11 X7 X28) 5] false
def c42_11 : CC := .reg [
 O p29 (.load 11 true X7) 0,
 O p30 (.call (.c (.fn 74 [])) [X29]) 1,
 O p31 (.un .not X30) 2,
 O p32 (.mv X31) 3,
 OG p33 p32 false (.mv X5) 4,
 OG p34 p32 false (.mv X6) 5,
 OG p35 p32 false (.slice 11 X33 none (some X34) none) 6,
 OG p36 p32 false (.mkfn 76 [X7]) 7,
 OG p37 p32 false (.call (.c (.fn 75 [])) [X35, X36]) 8,
 O p38 (.pick X32 (.c (.bool true)) X37) 9] false
def c42_12 : CC := .reg [
 ON (.store 1 X2 (.c (.bool false))) 0] false
def c42_13 : CC := .reg [
 O p39 (.bin .add .num X24 (.c (I 1))) 0,
 O p24 (.mv X39) 1] false
def c42_14 : CC := .loop (.seq c42_9 (.seq (.cond X25 .skip (.exit 2)) (.seq (.blk 3 (.seq c42_10 (.seq c42_11 (.cond X38 (.seq c42_12 .ret) .skip)))) c42_13)))
def c42_15 : CC := .rng X9 [p10, p11] (.seq c42_3 c42_4) (.blk 1 (.seq c42_5 (.seq (.seq c42_6 (.cond X21 (.seq c42_7 .ret) .skip)) (.seq c42_8 (.blk 2 c42_14)))))
def c42_16 : CC := .reg [
 ON (.store 1 X2 (.c (.bool true))) 0] false
def F42 : CF := .mk 40 [p0] 6 (.seq c42_0 (.seq c42_1 (.seq (.seq c42_2 (.blk 0 c42_15)) (.seq c42_16 .ret)))) [.cell p2 1 false] 3
/- daybook/shape.same -/
def c43_0 : CC := .reg [
 O p2 (.box 36 X0) 0,
 O p3 (.box 36 X1) 1,
 O p4 (.mv (.c (.bool false))) 2] false
def c43_1 : CC := .reg [
 O p5 (.faddr 0 X2) 0,
 O p6 (.load 1 false X5) 1,
 O p7 (.faddr 0 X3) 2,
 O p8 (.load 1 false X7) 3,
 O p9 (.bin .eql .num X6 X8) 4,
 O p10 (.mv X9) 5,
 OG p11 p10 true (.faddr 1 X2) 6,
 OG p12 p10 true (.load 3 true X11) 7,
 OG p13 p10 true (.faddr 1 X3) 8,
 OG p14 p10 true (.load 3 true X13) 9,
 OG p15 p10 true (.bin .eql (.cells [.i, .i, .s]) X12 X14) 10,
 O p16 (.pick X10 X15 (.c (.bool false))) 11,
 O p17 (.mv X16) 12,
 OG p18 p17 true (.faddr 4 X2) 13,
 OG p19 p17 true (.load 1 false X18) 14,
 OG p20 p17 true (.faddr 4 X3) 15,
 OG p21 p17 true (.load 1 false X20) 16,
 OG p22 p17 true (.bin .eql .num X19 X21) 17,
 O p23 (.pick X17 X22 (.c (.bool false))) 18,
 O p24 (.mv X23) 19,
 OG p25 p24 true (.faddr 5 X2) 20,
 OG p26 p24 true (.load 1 false X25) 21,
 OG p27 p24 true (.faddr 5 X3) 22,
 OG p28 p24 true (.load 1 false X27) 23,
 OG p29 p24 true (.call (.c (.fn 78 [])) [X26, X28, (.c (.fn 43 []))]) 24,
 O p30 (.pick X24 X29 (.c (.bool false))) 25,
 O p4 (.mv X30) 26] false
def F43 : CF := .mk 31 [p0, p1] 5 (.seq c43_0 (.seq c43_1 .ret)) [.t p4] 3
/- daybook/shape.list -/
def c44_0 : CC := .reg [
 O p2 (.alloc 36 [I 0, I 0, I 0, (.str []), (.str []), .nils, I 0, I 0]) 0] false
def c44_1 : CC := .reg [
 O p6 (.build [I 0, I 0, I 0, (.str []), (.str []), .nils, I 0, I 0] [(0, 1, (.c (I 4)))]) 0,
 O p3 (.alloc 36 [I 0, I 0, I 0, (.str []), (.str []), .nils, I 0, I 0]) 1,
 ON (.store 8 X3 X6) 2] false
def c44_2 : CC := .reg [
 O p7 (.mv X0) 0,
 O p8 (.len 1 X7) 1,
 O p9 (.mv (.c (I 0))) 2] false
def c44_3 : CC := .reg [
 O p10 (.bin .lss .num X9 X8) 0] false
def c44_4 : CC := .reg [
 O p11 (.iaddr 11 X7 X9) 0,
 O p12 (.load 11 true X11) 1,
 O p5 (.alloc 44 [(.bool false), (.str []), (.bool false), I 0, (.bool false), I 0, I 0, (.str []), (.bool false), .nils, I 0]) 2,
 ON (.store 11 X5 X12) 3] false
def c44_5 : CC := .reg [
 O p13 (.faddr 5 X3) 0,
 .mk (some p14) none (.load 1 false X13) [3] 1,
 O p15 (.load 11 true X5) 2,
 O p16 (.call (.c (.fn 79 [])) [X15]) 3,
 O p17 (.bslice 36 8 [I 0, I 0, I 0, (.str []), (.str []), .nils, I 0, I 0] 1 [(0, X16)]) 4,
 O p18 (.append 36 8 X14 X17) 5,
 O p19 (.faddr 5 X3) 6,
 ON (.store 1 X19 X18) 7] true
def c44_6 : CC := .reg [
 O p20 (.bin .add .num X9 (.c (I 1))) 0,
 O p9 (.mv X20) 1] false
def c44_7 : CC := .loop (.seq c44_3 (.seq (.cond X10 .skip (.exit 0)) (.seq (.blk 1 (.seq c44_4 c44_5)) c44_6)))
def c44_8 : CC := .reg [
 O p21 (.load 8 true X3) 0,
 ON (.store 8 X2 X21) 1] false
def F44 : CF := .mk 22 [p0] 5 (.seq c44_0 (.seq c44_1 (.seq (.seq c44_2 (.blk 0 c44_7)) (.seq c44_8 .ret)))) [.cell p2 8 true] 3
/- daybook/daybookref19.weigh -/
def c48_0 : CC := .reg [
 O p4 (.mv (.c (I 0))) 0] false
def c48_1 : CC := .reg [
 O p5 (.mv (.c (I 0))) 0] false
def c48_2 : CC := .reg [
 O p7 (.mv X1) 0,
 O p8 (.bin .gtr .num X7 (.c (I 60))) 1] false
def c48_3 : CC := .reg [
 O p4 (.mv (.c (I 1000))) 0] false
def c48_4 : CC := .reg [
 O p6 (.mv (.c (I 0))) 0] false
def c48_5 : CC := .reg [
 O p9 (.mv X6) 0,
 O p10 (.mv X0) 1,
 O p11 (.len 1 X10) 2,
 O p12 (.bin .lss .num X9 X11) 3,
 O p13 (.mv X12) 4,
 OG p14 p13 true (.mv X5) 5,
 OG p15 p13 true (.bin .leq .num X14 (.c (I 200))) 6,
 O p16 (.pick X13 X15 (.c (.bool false))) 7] false
def c48_6 : CC := .reg [
 O p19 (.mv X5) 0,
 O p20 (.bin .add .num X19 (.c (I 1))) 1,
 O p21 (.mv X0) 2,
 O p22 (.mv X6) 3,
 O p23 (.iaddr 11 X21 X22) 4,
 O p24 (.faddr 1 X23) 5,
 .mk (some p25) none (.load 1 false X24) [26] 6,
 O p26 (.len 0 X25) 7,
 O p27 (.bin .quo .num X26 (.c (I 50))) 8,
 O p28 (.bin .add .num X20 X27) 9,
 O p29 (.mv X0) 10,
 O p30 (.mv X6) 11,
 O p31 (.iaddr 11 X29 X30) 12,
 O p32 (.faddr 5 X31) 13,
 O p33 (.faddr 2 X32) 14,
 .mk (some p34) none (.load 1 false X33) [26] 15,
 O p35 (.len 0 X34) 16,
 O p36 (.bin .quo .num X35 (.c (I 50))) 17,
 O p37 (.bin .add .num X28 X36) 18,
 O p38 (.mv X0) 19,
 O p39 (.mv X6) 20,
 O p40 (.iaddr 11 X38 X39) 21,
 O p41 (.faddr 9 X40) 22,
 O p42 (.load 1 false X41) 23,
 O p43 (.mv X1) 24,
 O p44 (.bin .add .num X43 (.c (I 1))) 25,
 O p45 (.call (.c (.fn 48 [])) [X42, X44]) 26,
 O p46 (.bin .add .num X37 X45) 27,
 O p5 (.mv X46) 28] true
def c48_7 : CC := .reg [
 O p17 (.mv X6) 0,
 O p18 (.bin .add .num X17 (.c (I 1))) 1,
 O p6 (.mv X18) 2] false
def c48_8 : CC := .loop (.seq (.seq c48_5 (.cond X16 .skip (.exit 0))) (.seq (.blk 1 c48_6) c48_7))
def c48_9 : CC := .reg [
 O p47 (.mv X5) 0,
 O p4 (.mv X47) 1] false
def F48 : CF := .mk 48 [p0, p1] 6 (.seq c48_0 (.seq c48_1 (.seq (.seq c48_2 (.cond X8 (.seq c48_3 .ret) .skip)) (.seq (.seq c48_4 (.blk 0 c48_8)) (.seq c48_9 .ret))))) [.t p4] 3
/- daybook/daybookref19.count -/
def c49_0 : CC := .reg [
 O p4 (.mv (.c (I 0))) 0,
 O p5 (.mv (.c (I 0))) 1] false
def c49_1 : CC := .reg [
 O p11 (.mv X0) 0,
 O p12 (.len 1 X11) 1,
 O p6 (.mv X12) 2] false
def c49_2 : CC := .reg [
 O p13 (.mv X1) 0,
 O p7 (.mv X13) 1] false
def c49_3 : CC := .reg [
 O p8 (.mv (.c (I 0))) 0] false
def c49_4 : CC := .reg [
 O p14 (.mv X8) 0,
 O p15 (.mv X0) 1,
 O p16 (.len 1 X15) 2,
 O p17 (.bin .lss .num X14 X16) 3,
 O p18 (.mv X17) 4,
 OG p19 p18 true (.mv X1) 5,
 OG p20 p18 true (.bin .lss .num X19 (.c (I 100))) 6,
 O p21 (.pick X18 X20 (.c (.bool false))) 7,
 O p22 (.mv X21) 8,
 OG p23 p22 true (.mv X6) 9,
 OG p24 p22 true (.bin .leq .num X23 (.c (I 1000))) 10,
 O p25 (.pick X22 X24 (.c (.bool false))) 11] false
def c49_5 : CC := .reg [
 O p28 (.mv X0) 0,
 O p29 (.mv X8) 1,
 O p30 (.iaddr 11 X28 X29) 2,
 O p31 (.faddr 8 X30) 3,
 O p32 (.load 1 false X31) 4] false
def c49_6 : CC := .reg [
 O p34 (.mv X0) 0,
 O p35 (.mv X8) 1,
 O p36 (.iaddr 11 X34 X35) 2,
 O p37 (.faddr 9 X36) 3,
 O p38 (.load 1 false X37) 4,
 O p39 (.mv X1) 5,
 O p40 (.bin .add .num X39 (.c (I 1))) 6,
 O p41 (.call (.c (.fn 49 [])) [X38, X40]) 7,
 O p33 (.mv X41) 8,
 O p42 (.ext 0 X33) 9,
 O p43 (.ext 1 X33) 10,
 O p9 (.mv X42) 11,
 O p10 (.mv X43) 12] false
def c49_7 : CC := .reg [
 O p44 (.mv X6) 0,
 O p45 (.mv X9) 1,
 O p46 (.bin .add .num X44 X45) 2,
 O p6 (.mv X46) 3] false
def c49_8 : CC := .reg [
 O p47 (.mv X7) 0,
 O p48 (.mv X10) 1,
 O p49 (.minmax true X47 X48) 2,
 O p7 (.mv X49) 3] false
def c49_9 : CC := .reg [
 O p26 (.mv X8) 0,
 O p27 (.bin .add .num X26 (.c (I 1))) 1,
 O p8 (.mv X27) 2] false
def c49_10 : CC := .loop (.seq (.seq c49_4 (.cond X25 .skip (.exit 0))) (.seq (.blk 1 (.seq c49_5 (.cond X32 (.seq c49_6 (.seq c49_7 c49_8)) .skip))) c49_9))
def c49_11 : CC := .reg [
 O p50 (.mv X6) 0,
 O p51 (.mv X7) 1,
 O p4 (.mv X50) 2,
 O p5 (.mv X51) 3] false
def F49 : CF := .mk 52 [p0, p1] 6 (.seq c49_0 (.seq c49_1 (.seq c49_2 (.seq (.seq c49_3 (.blk 0 c49_10)) (.seq c49_11 .ret))))) [.t p4, .t p5] 3
/- daybook/daybookref19.fine -/
def c50_0 : CC := .reg [
 O p2 (.mv (.c (.bool false))) 0] false
def c50_1 : CC := .reg [
 O p3 (.mv (.c (I 0))) 0] false
def c50_2 : CC := .reg [
 O p6 (.mv X3) 0,
 O p7 (.mv X0) 1,
 O p8 (.len 1 X7) 2,
 O p9 (.bin .lss .num X6 X8) 3] false
def c50_3 : CC := .reg [
 O p12 (.mv X0) 0,
 O p13 (.mv X3) 1,
 O p14 (.iaddr 11 X12 X13) 2,
 O p15 (.load 11 true X14) 3,
 O p16 (.call (.c (.fn 84 [])) [X15]) 4,
 O p4 (.mv X16) 5] false
def c50_4 : CC := .reg [
 O p17 (.mv X4) 0,
 O p18 (.un .not X17) 1] false
def c50_5 : CC := .reg [
 O p2 (.mv (.c (.bool false))) 0] false
def c50_6 : CC := .reg [
 O p5 (.mv (.c (I 0))) 0] false
def c50_7 : CC := .reg [
 O p19 (.mv X5) 0,
 O p20 (.mv X3) 1,
 O p21 (.bin .lss .num X19 X20) 2] false
def c50_8 : CC := .reg [
 O p24 (.mv X0) 0,
 O p25 (.mv X3) 1,
 O p26 (.iaddr 11 X24 X25) 2,
 O p27 (.faddr 0 X26) 3,
 O p28 (.load 1 false X27) 4,
 O p29 (.mv X0) 5,
 O p30 (.mv X5) 6,
 O p31 (.iaddr 11 X29 X30) 7,
 O p32 (.faddr 0 X31) 8,
 O p33 (.load 1 false X32) 9,
 O p34 (.bin .eql .bool X28 X33) 10,
 O p35 (.mv X34) 11,
 OG p36 p35 true (.mv X0) 12,
 OG p37 p35 true (.mv X3) 13,
 OG p38 p35 true (.iaddr 11 X36 X37) 14,
 OG p39 p35 true (.faddr 1 X38) 15,
 OG p40 p35 true (.load 1 false X39) 16,
 OG p41 p35 true (.mv X0) 17,
 OG p42 p35 true (.mv X5) 18,
 OG p43 p35 true (.iaddr 11 X41 X42) 19,
 OG p44 p35 true (.faddr 1 X43) 20,
 OG p45 p35 true (.load 1 false X44) 21,
 OG p46 p35 true (.bin .eql .num X40 X45) 22,
 O p47 (.pick X35 X46 (.c (.bool false))) 23,
 O p48 (.mv X47) 24,
 OG p49 p48 true (.mv X0) 25,
 OG p50 p48 true (.mv X3) 26,
 OG p51 p48 true (.iaddr 11 X49 X50) 27,
 OG p52 p48 true (.faddr 2 X51) 28,
 OG p53 p48 true (.load 1 false X52) 29,
 OG p54 p48 true (.mv X0) 30,
 OG p55 p48 true (.mv X5) 31,
 OG p56 p48 true (.iaddr 11 X54 X55) 32,
 OG p57 p48 true (.faddr 2 X56) 33,
 OG p58 p48 true (.load 1 false X57) 34,
 OG p59 p48 true (.bin .eql .bool X53 X58) 35,
 O p60 (.pick X48 X59 (.c (.bool false))) 36] true
def c50_9 : CC := .reg [
 O p2 (.mv (.c (.bool false))) 0] false
def c50_10 : CC := .reg [
 O p22 (.mv X5) 0,
 O p23 (.bin .add .num X22 (.c (I 1))) 1,
 O p5 (.mv X23) 2] false
def c50_11 : CC := .loop (.seq (.seq c50_7 (.cond X21 .skip (.exit 2))) (.seq (.blk 3 (.seq c50_8 (.cond X60 (.seq c50_9 .ret) .skip))) c50_10))
def c50_12 : CC := .reg [
 O p61 (.mv X0) 0,
 O p62 (.mv X3) 1,
 O p63 (.iaddr 11 X61 X62) 2,
 O p64 (.faddr 8 X63) 3,
 O p65 (.load 1 false X64) 4,
 O p66 (.mv X65) 5,
 OG p67 p66 true (.mv X0) 6,
 OG p68 p66 true (.mv X3) 7,
 OG p69 p66 true (.iaddr 11 X67 X68) 8,
 OG p70 p66 true (.faddr 9 X69) 9,
 OG p71 p66 true (.load 1 false X70) 10,
 OG p72 p66 true (.call (.c (.fn 50 [])) [X71]) 11,
 OG p73 p66 true (.un .not X72) 12,
 O p74 (.pick X66 X73 (.c (.bool false))) 13] false
def c50_13 : CC := .reg [
 O p2 (.mv (.c (.bool false))) 0] false
def c50_14 : CC := .reg [
 O p10 (.mv X3) 0,
 O p11 (.bin .add .num X10 (.c (I 1))) 1,
 O p3 (.mv X11) 2] false
def c50_15 : CC := .loop (.seq (.seq c50_2 (.cond X9 .skip (.exit 0))) (.seq (.blk 1 (.seq c50_3 (.seq (.seq c50_4 (.cond X18 (.seq c50_5 .ret) .skip)) (.seq (.seq c50_6 (.blk 2 c50_11)) (.seq c50_12 (.cond X74 (.seq c50_13 .ret) .skip)))))) c50_14))
def c50_16 : CC := .reg [
 O p2 (.mv (.c (.bool true))) 0] false
def F50 : CF := .mk 75 [p0] 7 (.seq c50_0 (.seq (.seq c50_1 (.blk 0 c50_15)) (.seq c50_16 .ret))) [.t p2] 3
/- daybook/text.tokens -/
def c64_0 : CC := .reg [
 O p1 (.box 9 X0) 0,
 O p2 (.mv (.c .nilf)) 1] false
def c64_1 : CC := .reg [
 O p3 (.mkfn 101 [X1]) 0,
 O p2 (.mv X3) 1] false
def F64 : CF := .mk 4 [p0] 3 (.seq c64_0 (.seq c64_1 .ret)) [.t p2] 0
/- daybook/value.Parse -/
def c67_0 : CC := .reg [
 O p2 (.alloc 34 [I 0, I 0, (.str [])]) 0,
 O p3 (.mv (.c (I 0))) 1] false
def c67_1 : CC := .reg [
 O p7 (.mv X0) 0,
 O p8 (.call (.c (.fn 106 [])) [X7]) 1,
 O p6 (.mv X8) 2,
 O p9 (.ext 0 X6) 3,
 O p10 (.ext 1 X6) 4,
 O p4 (.alloc 34 [I 0, I 0, (.str [])]) 5,
 ON (.store 3 X4 X9) 6,
 O p5 (.mv X10) 7] false
def c67_2 : CC := .reg [
 O p11 (.mv X5) 0,
 O p12 (.un .not X11) 1,
 O p13 (.mv X12) 2,
 OG p14 p13 false (.load 3 true X4) 3,
 OG p15 p13 false (.call (.c (.fn 107 [])) [X14]) 4,
 OG p16 p13 false (.un .not X15) 5,
 O p17 (.pick X13 (.c (.bool true)) X16) 6] false
def c67_3 : CC := .reg [
 O p18 (.build [I 0, I 0, (.str [])] []) 0,
 ON (.store 3 X2 X18) 1,
 O p3 (.mv (.c (I 11))) 2] false
def c67_4 : CC := .reg [
 O p19 (.load 3 true X4) 0,
 ON (.store 3 X2 X19) 1,
 O p3 (.mv (.c (I 0))) 2] false
def F67 : CF := .mk 20 [p0] 5 (.seq c67_0 (.seq c67_1 (.seq (.seq c67_2 (.cond X17 (.seq c67_3 .ret) .skip)) (.seq c67_4 .ret)))) [.cell p2 3 true, .t p3] 3
/- daybook/text.Named -/
def c68_0 : CC := .reg [
 O p1 (.box 9 X0) 0,
 O p2 (.mv (.c (.bool false))) 1] false
def c68_1 : CC := .reg [
 O p8 (.load 1 false X1) 0,
 O p9 (.call (.c (.fn 67 [])) [X8]) 1,
 O p7 (.mv X9) 2,
 O p10 (.ext 0 X7) 3,
 O p11 (.ext 1 X7) 4,
 O p3 (.alloc 34 [I 0, I 0, (.str [])]) 5,
 ON (.store 3 X3 X10) 6,
 O p4 (.mv X11) 7] false
def c68_2 : CC := .reg [
 O p12 (.load 1 false X1) 0,
 O p13 (.len 0 X12) 1,
 O p14 (.bin .lss .num X13 (.c (I 1))) 2,
 O p15 (.mv X14) 3,
 OG p16 p15 false (.load 1 false X1) 4,
 OG p17 p15 false (.len 0 X16) 5,
 OG p18 p15 false (.bin .gtr .num X17 (.c (I 64))) 6,
 O p19 (.pick X15 (.c (.bool true)) X18) 7,
 O p20 (.mv X19) 8,
 OG p21 p20 false (.mv X4) 9,
 OG p22 p20 false (.bin .eql .num X21 (.c (I 0))) 10,
 O p23 (.pick X20 (.c (.bool true)) X22) 11] false
def c68_3 : CC := .reg [
 O p2 (.mv (.c (.bool false))) 0] false
def c68_4 : CC := .reg [
 O p24 (.mkfn 108 [X1]) 0,
 O p5 (.mv X24) 1] false
def c68_5 : CC := .reg [
 O p25 (.load 1 false X1) 0,
 O p26 (.len 0 X25) 1,
 O p27 (.mv (.c (I 0))) 2] false
def c68_6 : CC := .reg [
 O p28 (.bin .lss .num X27 X26) 0] false
def c68_7 : CC := .reg [
 O p29 (.mv X27) 0,
 O p6 (.mv X29) 1] false
def c68_8 : CC := .reg [
 O p30 (.load 1 false X1) 0,
 O p31 (.mv X6) 1,
 O p32 (.index X30 X31) 2,
 O p33 (.bin .lss .num X32 (.c (.int .u8 97))) 3,
 O p34 (.mv X33) 4,
 OG p35 p34 false (.load 1 false X1) 5,
 OG p36 p34 false (.mv X6) 6,
 OG p37 p34 false (.index X35 X36) 7,
 OG p38 p34 false (.bin .gtr .num X37 (.c (.int .u8 122))) 8,
 O p39 (.pick X34 (.c (.bool true)) X38) 9,
 O p40 (.mv X39) 10,
 OG p41 p40 true (.mv X5) 11,
 OG p42 p40 true (.mv X6) 12,
 OG p43 p40 true (.call X41 [X42]) 13,
 OG p44 p40 true (.un .not X43) 14,
 O p45 (.pick X40 X44 (.c (.bool false))) 15,
 O p46 (.mv X45) 16,
 OG p47 p46 true (.load 1 false X1) 17,
 OG p48 p46 true (.mv X6) 18,
 OG p49 p46 true (.index X47 X48) 19,
 OG p50 p46 true (.call (.c (.fn 103 [])) [(.c (.str [63, 95, 43, 45, 42, 47, 60, 62, 61, 33, 46, 37, 38])), X49]) 20,
 OG p51 p46 true (.bin .lss .num X50 (.c (I 0))) 21,
 O p52 (.pick X46 X51 (.c (.bool false))) 22] false
def c68_9 : CC := .reg [
 O p2 (.mv (.c (.bool false))) 0] false
def c68_10 : CC := .reg [
 O p53 (.bin .add .num X27 (.c (I 1))) 0,
 O p27 (.mv X53) 1] false
def c68_11 : CC := .loop (.seq c68_6 (.seq (.cond X28 .skip (.exit 0)) (.seq (.blk 1 (.seq c68_7 (.seq c68_8 (.cond X52 (.seq c68_9 .ret) .skip)))) c68_10)))
def c68_12 : CC := .reg [
 O p54 (.mv X5) 0,
 O p55 (.call X54 [(.c (I 0))]) 1,
 O p56 (.un .not X55) 2,
 O p57 (.mv X56) 3,
 OG p58 p57 true (.load 1 false X1) 4,
 OG p59 p57 true (.index X58 (.c (I 0))) 5,
 OG p60 p57 true (.call (.c (.fn 103 [])) [(.c (.str [43, 45, 33])), X59]) 6,
 OG p61 p57 true (.bin .lss .num X60 (.c (I 0))) 7,
 OG p62 p57 true (.mv X61) 8,
 OG p63 p62 false (.mv X5) 9,
 OG p64 p62 false (.call X63 [(.c (I 1))]) 10,
 OG p65 p62 false (.un .not X64) 11,
 OG p66 p57 true (.pick X62 (.c (.bool true)) X65) 12,
 O p67 (.pick X57 X66 (.c (.bool false))) 13,
 O p2 (.mv X67) 14] false
def F68 : CF := .mk 68 [p0] 7 (.seq c68_0 (.seq (.seq c68_1 (.seq c68_2 (.cond X23 (.seq c68_3 .ret) .skip))) (.seq c68_4 (.seq (.seq c68_5 (.blk 0 c68_11)) (.seq c68_12 .ret))))) [.t p2] 3
/- daybook/shape.item -/
def c72_0 : CC := .reg [
 O p2 (.box 36 X0) 0,
 O p4 (.alloc 44 [(.bool false), (.str []), (.bool false), I 0, (.bool false), I 0, I 0, (.str []), (.bool false), .nils, I 0]) 1,
 O p5 (.mv (.c (.bool false))) 2] false
def c72_1 : CC := .reg [
 O p9 (.load 8 true X2) 0,
 O p10 (.call (.c (.fn 112 [])) [X9, (.c (.str [42]))]) 1] false
def c72_2 : CC := .reg [
 O p11 (.build [(.bool false), (.str []), (.bool false), I 0, (.bool false), I 0, I 0, (.str []), (.bool false), .nils, I 0] [(0, 1, (.c (.bool true)))]) 0,
 ON (.store 11 X4 X11) 1,
 O p5 (.mv (.c (.bool true))) 2] false
def c72_3 : CC := .reg [
 O p12 (.faddr 0 X2) 0,
 O p13 (.load 1 false X12) 1,
 O p14 (.bin .neq .num X13 (.c (I 5))) 2] false
def c72_4 : CC := .reg [
 O p15 (.load 8 true X2) 0,
 O p16 (.call (.c (.fn 113 [])) [X15]) 1,
 O p17 (.ext 0 X16) 2,
 O p18 (.ext 1 X16) 3,
 ON (.store 11 X4 X17) 4,
 O p5 (.mv X18) 5] false
def c72_5 : CC := .reg [
 O p19 (.faddr 5 X2) 0,
 O p20 (.load 1 false X19) 1,
 O p21 (.len 1 X20) 2,
 O p22 (.bin .neq .num X21 (.c (I 2))) 3] false
def c72_6 : CC := .reg [
 O p23 (.build [(.bool false), (.str []), (.bool false), I 0, (.bool false), I 0, I 0, (.str []), (.bool false), .nils, I 0] []) 0,
 ON (.store 11 X4 X23) 1,
 O p5 (.mv (.c (.bool false))) 2] false
def c72_7 : CC := .reg [
 O p25 (.faddr 5 X2) 0,
 O p26 (.load 1 false X25) 1,
 O p27 (.iaddr 8 X26 (.c (I 0))) 2,
 O p28 (.load 8 true X27) 3,
 O p29 (.call (.c (.fn 113 [])) [X28]) 4,
 O p24 (.mv X29) 5,
 O p30 (.ext 0 X24) 6,
 O p31 (.ext 1 X24) 7,
 O p6 (.alloc 44 [(.bool false), (.str []), (.bool false), I 0, (.bool false), I 0, I 0, (.str []), (.bool false), .nils, I 0]) 8,
 ON (.store 11 X6 X30) 9,
 O p7 (.mv X31) 10] false
def c72_8 : CC := .reg [
 O p32 (.faddr 5 X2) 0,
 O p33 (.load 1 false X32) 1,
 O p34 (.iaddr 8 X33 (.c (I 1))) 2,
 O p35 (.load 8 true X34) 3,
 O p8 (.alloc 36 [I 0, I 0, I 0, (.str []), (.str []), .nils, I 0, I 0]) 4,
 ON (.store 8 X8 X35) 5] false
def c72_9 : CC := .reg [
 O p43 (.mv X7) 0,
 O p44 (.un .not X43) 1,
 O p42 (.mv X44) 2] false
def c72_10 : CC := .reg [
 O p45 (.load 11 true X6) 0,
 ON (.store 11 X4 X45) 1,
 O p5 (.mv (.c (.bool false))) 2] false
def c72_11 : CC := .reg [
 O p47 (.faddr 0 X8) 0,
 O p48 (.load 1 false X47) 1,
 O p49 (.bin .eql .num X48 (.c (I 4))) 2,
 O p46 (.mv X49) 3] false
def c72_12 : CC := .reg [
 O p50 (.faddr 8 X6) 0,
 ON (.store 1 X50 (.c (.bool true))) 1] false
def c72_13 : CC := .reg [
 O p52 (.load 8 true X8) 0,
 O p53 (.mv X1) 1,
 O p54 (.bin .add .num X53 (.c (I 1))) 2,
 O p55 (.call (.c (.fn 41 [])) [X52, X54]) 3,
 O p51 (.mv X55) 4,
 O p56 (.ext 0 X51) 5,
 O p57 (.ext 1 X51) 6,
 O p58 (.faddr 9 X6) 7,
 ON (.store 1 X58 X56) 8,
 O p7 (.mv X57) 9] false
def c72_14 : CC := .reg [
 O p60 (.load 8 true X8) 0,
 O p61 (.call (.c (.fn 112 [])) [X60, (.c (.str [46, 46, 46]))]) 1,
 O p59 (.mv X61) 2] false
def c72_15 : CC := .reg [
 O p62 (.faddr 10 X6) 0,
 ON (.store 1 X62 (.c (I (-1)))) 1] false
def c72_16 : CC := .reg [
 O p37 (.load 8 true X8) 0,
 O p38 (.call (.c (.fn 114 [])) [X37]) 1,
 O p36 (.mv X38) 2,
 O p39 (.ext 0 X36) 3,
 O p40 (.ext 1 X36) 4,
 O p41 (.faddr 10 X6) 5,
 ON (.store 1 X41 X39) 6,
 O p7 (.mv X40) 7] false
def c72_17 : CC := .reg [
 O p63 (.load 11 true X6) 0,
 O p64 (.mv X7) 1,
 ON (.store 11 X4 X63) 2,
 O p5 (.mv X64) 3] false
def F72 : CF := .mk 65 [p0, p1] 7 (.seq c72_0 (.seq (.seq c72_1 (.cond X10 (.seq c72_2 .ret) .skip)) (.seq (.seq c72_3 (.cond X14 (.seq c72_4 .ret) .skip)) (.seq (.seq c72_5 (.cond X22 (.seq c72_6 .ret) .skip)) (.seq c72_7 (.seq c72_8 (.seq (.blk 0 (.seq c72_9 (.cond X42 (.seq c72_10 .ret) (.seq c72_11 (.cond X46 (.seq c72_12 c72_13) (.seq c72_14 (.cond X59 c72_15 c72_16))))))) (.seq c72_17 .ret)))))))) [.cell p4 11 true, .t p5] 3
/- daybook/shape.lists -/
def c73_0 : CC := .reg [
 O p2 (.box 22 X0) 0,
 O p3 (.box 3 X1) 1,
 O p4 (.mv (.c .nilf)) 2] false
def c73_1 : CC := .reg [
 O p5 (.mkfn 115 [X3, X2]) 0,
 O p4 (.mv X5) 1] false
def F73 : CF := .mk 6 [p0, p1] 3 (.seq c73_0 (.seq c73_1 .ret)) [.t p4] 0
/- daybook/shape.one -/
def c74_0 : CC := .reg [
 O p1 (.box 44 X0) 0,
 O p2 (.mv (.c (.bool false))) 1] false
def c74_1 : CC := .reg [
 O p6 (.faddr 0 X1) 0,
 O p7 (.load 1 false X6) 1] false
def c74_2 : CC := .reg [
 O p8 (.faddr 1 X1) 0,
 O p9 (.load 1 false X8) 1,
 O p10 (.bin .eql .num X9 (.c (.str []))) 2,
 O p11 (.mv X10) 3,
 OG p12 p11 true (.faddr 2 X1) 4,
 OG p13 p11 true (.load 1 false X12) 5,
 OG p14 p11 true (.un .not X13) 6,
 O p15 (.pick X11 X14 (.c (.bool false))) 7,
 O p16 (.mv X15) 8,
 OG p17 p16 true (.faddr 3 X1) 9,
 OG p18 p16 true (.load 1 false X17) 10,
 OG p19 p16 true (.bin .eql .num X18 (.c (I 0))) 11,
 O p20 (.pick X16 X19 (.c (.bool false))) 12,
 O p21 (.mv X20) 13,
 OG p22 p21 true (.faddr 4 X1) 14,
 OG p23 p21 true (.load 1 false X22) 15,
 OG p24 p21 true (.un .not X23) 16,
 O p25 (.pick X21 X24 (.c (.bool false))) 17,
 O p26 (.mv X25) 18,
 OG p27 p26 true (.faddr 5 X1) 19,
 OG p28 p26 true (.load 3 true X27) 20,
 OG p29 p26 true (.build [I 0, I 0, (.str [])] []) 21,
 OG p30 p26 true (.bin .eql (.cells [.i, .i, .s]) X28 X29) 22,
 O p31 (.pick X26 X30 (.c (.bool false))) 23,
 O p32 (.mv X31) 24,
 OG p33 p32 true (.faddr 8 X1) 25,
 OG p34 p32 true (.load 1 false X33) 26,
 OG p35 p32 true (.un .not X34) 27,
 O p36 (.pick X32 X35 (.c (.bool false))) 28,
 O p37 (.mv X36) 29,
 OG p38 p37 true (.faddr 9 X1) 30,
 OG p39 p37 true (.load 1 false X38) 31,
 OG p40 p37 true (.len 1 X39) 32,
 OG p41 p37 true (.bin .eql .num X40 (.c (I 0))) 33,
 O p42 (.pick X37 X41 (.c (.bool false))) 34,
 O p43 (.mv X42) 35,
 OG p44 p43 true (.faddr 10 X1) 36,
 OG p45 p43 true (.load 1 false X44) 37,
 OG p46 p43 true (.bin .eql .num X45 (.c (I 0))) 38,
 O p47 (.pick X43 X46 (.c (.bool false))) 39,
 O p2 (.mv X47) 40] false
def c74_3 : CC := .reg [
 O p3 (.mv (.c (I 0))) 0] false
def c74_4 : CC := .reg [
 O p48 (.faddr 4 X1) 0,
 O p49 (.load 1 false X48) 1,
 O p50 (.faddr 8 X1) 2,
 O p51 (.load 1 false X50) 3,
 O p52 (.faddr 10 X1) 4,
 O p53 (.load 1 false X52) 5,
 O p54 (.bin .neq .num X53 (.c (I 0))) 6,
 O p55 (.bslice 4 1 [(.bool false)] 3 [(0, X49), (1, X51), (2, X54)]) 7,
 O p56 (.len 1 X55) 8,
 O p57 (.mv (.c (I 0))) 9] false
def c74_5 : CC := .reg [
 O p58 (.bin .lss .num X57 X56) 0] false
def c74_6 : CC := .reg [
 O p59 (.iaddr 1 X55 X57) 0,
 O p60 (.load 1 false X59) 1,
 O p5 (.mv X60) 2] false
def c74_7 : CC := .reg [
 O p61 (.mv X5) 0] false
def c74_8 : CC := .reg [
 O p62 (.mv X3) 0,
 O p63 (.bin .add .num X62 (.c (I 1))) 1,
 O p3 (.mv X63) 2] false
def c74_9 : CC := .reg [
 O p64 (.bin .add .num X57 (.c (I 1))) 0,
 O p57 (.mv X64) 1] false
def c74_10 : CC := .loop (.seq c74_5 (.seq (.cond X58 .skip (.exit 0)) (.seq (.blk 1 (.seq c74_6 (.seq c74_7 (.cond X61 c74_8 .skip)))) c74_9)))
def c74_11 : CC := .reg [
 O p66 (.mv X3) 0,
 O p67 (.bin .gtr .num X66 (.c (I 1))) 1,
 O p65 (.mv X67) 2] false
def c74_12 : CC := .reg [
 O p68 (.faddr 1 X1) 0,
 O p69 (.load 1 false X68) 1,
 O p70 (.call (.c (.fn 116 [])) [X69]) 2,
 O p71 (.call (.c (.fn 97 [])) [X70]) 3,
 O p72 (.bin .neq .num X71 (.c (I 0))) 4,
 O p65 (.mv X72) 5] false
def c74_13 : CC := .reg [
 O p73 (.faddr 3 X1) 0,
 O p74 (.load 1 false X73) 1,
 O p75 (.bin .lss .num X74 (.c (I 0))) 2,
 O p65 (.mv X75) 3] false
def c74_14 : CC := .reg [
 O p76 (.faddr 3 X1) 0,
 O p77 (.load 1 false X76) 1,
 O p78 (.bin .gtr .num X77 (.c (I 1000))) 2,
 O p65 (.mv X78) 3] false
def c74_15 : CC := .reg [
 O p79 (.faddr 10 X1) 0,
 O p80 (.load 1 false X79) 1,
 O p81 (.bin .lss .num X80 (.c (I (-1)))) 2,
 O p65 (.mv X81) 3] false
def c74_16 : CC := .reg [
 O p82 (.faddr 10 X1) 0,
 O p83 (.load 1 false X82) 1,
 O p84 (.bin .gtr .num X83 (.c (I 100))) 2,
 O p65 (.mv X84) 3] false
def c74_17 : CC := .reg [
 O p85 (.faddr 8 X1) 0,
 O p86 (.load 1 false X85) 1,
 O p87 (.un .not X86) 2,
 O p88 (.mv X87) 3,
 OG p89 p88 true (.faddr 9 X1) 4,
 OG p90 p88 true (.load 1 false X89) 5,
 OG p91 p88 true (.len 1 X90) 6,
 OG p92 p88 true (.bin .gtr .num X91 (.c (I 0))) 7,
 O p93 (.pick X88 X92 (.c (.bool false))) 8,
 O p65 (.mv X93) 9] false
def c74_18 : CC := .reg [
 O p2 (.mv (.c (.bool false))) 0] false
def c74_19 : CC := .reg [
 O p95 (.faddr 4 X1) 0,
 O p96 (.load 1 false X95) 1,
 O p94 (.mv X96) 2] false
def c74_20 : CC := .reg [
 O p97 (.faddr 5 X1) 0,
 O p98 (.load 3 true X97) 1,
 O p99 (.call (.c (.fn 97 [])) [X98]) 2,
 O p100 (.bin .eql .num X99 (.c (I 0))) 3,
 O p2 (.mv X100) 4] false
def c74_21 : CC := .reg [
 O p101 (.faddr 5 X1) 0,
 O p102 (.load 3 true X101) 1,
 O p103 (.build [I 0, I 0, (.str [])] []) 2,
 O p104 (.bin .eql (.cells [.i, .i, .s]) X102 X103) 3,
 O p2 (.mv X104) 4] false
def F74 : CF := .mk 105 [p0] 7 (.seq c74_0 (.seq (.seq c74_1 (.cond X7 (.seq c74_2 .ret) .skip)) (.seq c74_3 (.seq (.seq c74_4 (.blk 0 c74_10)) (.seq (.blk 2 (.seq (.seq c74_11 (.cond X65 .skip (.seq c74_12 (.cond X65 .skip (.seq c74_13 (.cond X65 .skip (.seq c74_14 (.cond X65 .skip (.seq c74_15 (.cond X65 .skip (.seq c74_16 (.cond X65 .skip c74_17)))))))))))) (.cond X65 (.seq c74_18 .ret) (.seq c74_19 (.cond X94 (.seq c74_20 .ret) .skip))))) (.seq c74_21 .ret)))))) [.t p2] 3
/- slices.ContainsFunc[[]daybook/api.Item,daybook/api.Item] -/
def c75_0 : CC := .reg [
 O p4 (.mv (.c (.bool false))) 0] false
def c75_1 : CC := .reg [
 O p5 (.mv X0) 0,
 O p6 (.mv X1) 1,
 O p7 (.call (.c (.fn 117 [])) [X5, X6]) 2,
 O p8 (.bin .geq .num X7 (.c (I 0))) 3,
 O p4 (.mv X8) 4] false
def F75 : CF := .mk 9 [p0, p1] 4 (.seq c75_0 (.seq c75_1 .ret)) [.t p4] 2
/- daybook/shape.may$1 -/
def c76_0 : CC := .reg [
 O p2 (.box 44 X0) 0,
 O p3 (.mv (.c (.bool false))) 1] false
def c76_1 : CC := .reg [
 O p4 (.load 11 true X1) 0,
 O p5 (.load 11 true X2) 1,
 O p6 (.call (.c (.fn 77 [])) [X4, X5]) 2,
 O p3 (.mv X6) 3] false
def F76 : CF := .mk 7 [p0, p1] 3 (.seq c76_0 (.seq c76_1 .ret)) [.t p3] 0
/- daybook/shape.alike -/
def c77_0 : CC := .reg [
 O p2 (.box 44 X0) 0,
 O p3 (.box 44 X1) 1,
 O p4 (.mv (.c (.bool false))) 2] false
def c77_1 : CC := .reg [
 O p5 (.faddr 0 X2) 0,
 O p6 (.load 1 false X5) 1,
 O p7 (.faddr 0 X3) 2,
 O p8 (.load 1 false X7) 3,
 O p9 (.bin .eql .bool X6 X8) 4,
 O p10 (.mv X9) 5,
 OG p11 p10 true (.faddr 1 X2) 6,
 OG p12 p10 true (.load 1 false X11) 7,
 OG p13 p10 true (.faddr 1 X3) 8,
 OG p14 p10 true (.load 1 false X13) 9,
 OG p15 p10 true (.bin .eql .num X12 X14) 10,
 O p16 (.pick X10 X15 (.c (.bool false))) 11,
 O p17 (.mv X16) 12,
 OG p18 p17 true (.faddr 2 X2) 13,
 OG p19 p17 true (.load 1 false X18) 14,
 OG p20 p17 true (.faddr 2 X3) 15,
 OG p21 p17 true (.load 1 false X20) 16,
 OG p22 p17 true (.bin .eql .bool X19 X21) 17,
 O p23 (.pick X17 X22 (.c (.bool false))) 18,
 O p4 (.mv X23) 19] false
def F77 : CF := .mk 24 [p0, p1] 5 (.seq c77_0 (.seq c77_1 .ret)) [.t p4] 3
/- slices.EqualFunc[[]daybook/api.Node,[]daybook/api.Node,daybook/api.Node,daybook/api.Node] -/
def c78_0 : CC := .reg [
 O p6 (.mv (.c (.bool false))) 0] false
def c78_1 : CC := .reg [
 O p10 (.mv X0) 0,
 O p11 (.len 1 X10) 1,
 O p12 (.mv X1) 2,
 O p13 (.len 1 X12) 3,
 O p14 (.bin .neq .num X11 X13) 4] false
def c78_2 : CC := .reg [
 O p6 (.mv (.c (.bool false))) 0] false
def c78_3 : CC := .reg [
 O p15 (.mv X0) 0,
 O p16 (.len 1 X15) 1,
 O p17 (.mv (.c (I 0))) 2] false
def c78_4 : CC := .reg [
 O p18 (.bin .lss .num X17 X16) 0] false
def c78_5 : CC := .reg [
 O p19 (.mv X17) 0,
 O p20 (.iaddr 8 X15 X17) 1,
 O p21 (.load 8 true X20) 2,
 O p8 (.alloc 36 [I 0, I 0, I 0, (.str []), (.str []), .nils, I 0, I 0]) 3,
 O p7 (.mv X19) 4,
 ON (.store 8 X8 X21) 5] false
def c78_6 : CC := .reg [
 O p22 (.mv X1) 0,
 O p23 (.mv X7) 1,
 O p24 (.iaddr 8 X22 X23) 2,
 O p25 (.load 8 true X24) 3,
 O p9 (.alloc 36 [I 0, I 0, I 0, (.str []), (.str []), .nils, I 0, I 0]) 4,
 ON (.store 8 X9 X25) 5] false
def c78_7 : CC := .reg [
 O p26 (.mv X2) 0,
 O p27 (.load 8 true X8) 1,
 O p28 (.load 8 true X9) 2,
 O p29 (.call X26 [X27, X28]) 3,
 O p30 (.un .not X29) 4] false
def c78_8 : CC := .reg [
 O p6 (.mv (.c (.bool false))) 0] false
def c78_9 : CC := .reg [
 O p31 (.bin .add .num X17 (.c (I 1))) 0,
 O p17 (.mv X31) 1] false
def c78_10 : CC := .loop (.seq c78_4 (.seq (.cond X18 .skip (.exit 0)) (.seq (.blk 1 (.seq c78_5 (.seq c78_6 (.seq c78_7 (.cond X30 (.seq c78_8 .ret) .skip))))) c78_9)))
def c78_11 : CC := .reg [
 O p6 (.mv (.c (.bool true))) 0] false
def F78 : CF := .mk 32 [p0, p1, p2] 6 (.seq c78_0 (.seq (.seq c78_1 (.cond X14 (.seq c78_2 .ret) .skip)) (.seq (.seq c78_3 (.blk 0 c78_10)) (.seq c78_11 .ret)))) [.t p6] 1
/- daybook/shape.node -/
def c79_0 : CC := .reg [
 O p1 (.box 44 X0) 0,
 O p2 (.alloc 36 [I 0, I 0, I 0, (.str []), (.str []), .nils, I 0, I 0]) 1] false
def c79_1 : CC := .reg [
 O p3 (.alloc 36 [I 0, I 0, I 0, (.str []), (.str []), .nils, I 0, I 0]) 0] false
def c79_2 : CC := .reg [
 O p7 (.faddr 0 X1) 0,
 O p8 (.load 1 false X7) 1,
 O p6 (.mv X8) 2] false
def c79_3 : CC := .reg [
 O p9 (.call (.c (.fn 118 [])) [(.c (.str [42]))]) 0,
 ON (.store 8 X2 X9) 1] false
def c79_4 : CC := .reg [
 O p11 (.faddr 8 X1) 0,
 O p12 (.load 1 false X11) 1,
 O p10 (.mv X12) 2] false
def c79_5 : CC := .reg [
 O p13 (.faddr 9 X1) 0,
 O p14 (.load 1 false X13) 1,
 O p15 (.call (.c (.fn 44 [])) [X14]) 2,
 ON (.store 8 X3 X15) 3] false
def c79_6 : CC := .reg [
 O p17 (.faddr 10 X1) 0,
 O p18 (.load 1 false X17) 1,
 O p19 (.bin .lss .num X18 (.c (I 0))) 2,
 O p16 (.mv X19) 3] false
def c79_7 : CC := .reg [
 O p20 (.call (.c (.fn 118 [])) [(.c (.str [46, 46, 46]))]) 0,
 ON (.store 8 X3 X20) 1] false
def c79_8 : CC := .reg [
 O p22 (.faddr 10 X1) 0,
 O p23 (.load 1 false X22) 1,
 O p24 (.bin .gtr .num X23 (.c (I 0))) 2,
 O p21 (.mv X24) 3] false
def c79_9 : CC := .reg [
 O p25 (.faddr 10 X1) 0,
 O p26 (.load 1 false X25) 1,
 O p27 (.call (.c (.fn 119 [])) [X26]) 2,
 ON (.store 8 X3 X27) 3] false
def c79_10 : CC := .reg [
 O p4 (.load 11 true X1) 0,
 O p5 (.call (.c (.fn 120 [])) [X4]) 1,
 ON (.store 8 X2 X5) 2] false
def c79_11 : CC := .reg [
 O p28 (.load 11 true X1) 0,
 .mk (some p30) none (.load 8 true X3) [2] 2,
 O p29 (.call (.c (.fn 120 [])) [X28]) 1,
 O p31 (.bslice 36 8 [I 0, I 0, I 0, (.str []), (.str []), .nils, I 0, I 0] 2 [(0, X29), (1, X30)]) 3,
 O p32 (.build [I 0, I 0, I 0, (.str []), (.str []), .nils, I 0, I 0] [(0, 1, (.c (I 5))), (5, 1, X31)]) 4,
 ON (.store 8 X2 X32) 5] true
def F79 : CF := .mk 33 [p0] 6 (.seq c79_0 (.seq c79_1 (.seq (.blk 0 (.seq c79_2 (.cond X6 (.seq c79_3 .ret) (.seq c79_4 (.cond X10 c79_5 (.seq c79_6 (.cond X16 c79_7 (.seq c79_8 (.cond X21 c79_9 (.seq c79_10 .ret)))))))))) (.seq c79_11 .ret)))) [.cell p2 8 true] 3
/- daybook/daybookref19.one -/
def c84_0 : CC := .reg [
 O p1 (.box 44 X0) 0,
 O p2 (.mv (.c (.bool false))) 1] false
def c84_1 : CC := .reg [
 O p4 (.faddr 5 X1) 0,
 O p5 (.load 3 true X4) 1,
 O p6 (.build [I 0, I 0, (.str [])] []) 2,
 O p7 (.bin .eql (.cells [.i, .i, .s]) X5 X6) 3,
 O p3 (.mv X7) 4] false
def c84_2 : CC := .reg [
 O p8 (.faddr 0 X1) 0,
 O p9 (.load 1 false X8) 1] false
def c84_3 : CC := .reg [
 O p10 (.faddr 1 X1) 0,
 O p11 (.load 1 false X10) 1,
 O p12 (.bin .eql .num X11 (.c (.str []))) 2,
 O p13 (.mv X12) 3,
 OG p14 p13 true (.faddr 2 X1) 4,
 OG p15 p13 true (.load 1 false X14) 5,
 OG p16 p13 true (.un .not X15) 6,
 O p17 (.pick X13 X16 (.c (.bool false))) 7,
 O p18 (.mv X17) 8,
 OG p19 p18 true (.faddr 3 X1) 9,
 OG p20 p18 true (.load 1 false X19) 10,
 OG p21 p18 true (.bin .eql .num X20 (.c (I 0))) 11,
 O p22 (.pick X18 X21 (.c (.bool false))) 12,
 O p23 (.mv X22) 13,
 OG p24 p23 true (.faddr 4 X1) 14,
 OG p25 p23 true (.load 1 false X24) 15,
 OG p26 p23 true (.un .not X25) 16,
 O p27 (.pick X23 X26 (.c (.bool false))) 17,
 O p28 (.mv X27) 18,
 OG p29 p28 true (.mv X3) 19,
 O p30 (.pick X28 X29 (.c (.bool false))) 20,
 O p31 (.mv X30) 21,
 OG p32 p31 true (.faddr 8 X1) 22,
 OG p33 p31 true (.load 1 false X32) 23,
 OG p34 p31 true (.un .not X33) 24,
 O p35 (.pick X31 X34 (.c (.bool false))) 25,
 O p36 (.mv X35) 26,
 OG p37 p36 true (.faddr 9 X1) 27,
 OG p38 p36 true (.load 1 false X37) 28,
 OG p39 p36 true (.len 1 X38) 29,
 OG p40 p36 true (.bin .eql .num X39 (.c (I 0))) 30,
 O p41 (.pick X36 X40 (.c (.bool false))) 31,
 O p42 (.mv X41) 32,
 OG p43 p42 true (.faddr 10 X1) 33,
 OG p44 p42 true (.load 1 false X43) 34,
 OG p45 p42 true (.bin .eql .num X44 (.c (I 0))) 35,
 O p46 (.pick X42 X45 (.c (.bool false))) 36,
 O p2 (.mv X46) 37] false
def c84_4 : CC := .reg [
 O p47 (.faddr 4 X1) 0,
 O p48 (.load 1 false X47) 1,
 O p49 (.mv X48) 2,
 OG p50 p49 true (.faddr 8 X1) 3,
 OG p51 p49 true (.load 1 false X50) 4,
 O p52 (.pick X49 X51 (.c (.bool false))) 5,
 O p53 (.mv X52) 6,
 OG p54 p53 false (.faddr 4 X1) 7,
 OG p55 p53 false (.load 1 false X54) 8,
 OG p56 p53 false (.mv X55) 9,
 OG p57 p56 true (.faddr 10 X1) 10,
 OG p58 p56 true (.load 1 false X57) 11,
 OG p59 p56 true (.bin .neq .num X58 (.c (I 0))) 12,
 OG p60 p53 false (.pick X56 X59 (.c (.bool false))) 13,
 O p61 (.pick X53 (.c (.bool true)) X60) 14,
 O p62 (.mv X61) 15,
 OG p63 p62 false (.faddr 8 X1) 16,
 OG p64 p62 false (.load 1 false X63) 17,
 OG p65 p62 false (.mv X64) 18,
 OG p66 p65 true (.faddr 10 X1) 19,
 OG p67 p65 true (.load 1 false X66) 20,
 OG p68 p65 true (.bin .neq .num X67 (.c (I 0))) 21,
 OG p69 p62 false (.pick X65 X68 (.c (.bool false))) 22,
 O p70 (.pick X62 (.c (.bool true)) X69) 23] false
def c84_5 : CC := .reg [
 O p2 (.mv (.c (.bool false))) 0] false
def c84_6 : CC := .reg [
 O p71 (.faddr 1 X1) 0,
 O p72 (.load 1 false X71) 1,
 O p73 (.call (.c (.fn 121 [])) [X72]) 2,
 O p74 (.un .not X73) 3,
 O p75 (.mv X74) 4,
 OG p76 p75 false (.faddr 3 X1) 5,
 OG p77 p75 false (.load 1 false X76) 6,
 OG p78 p75 false (.bin .lss .num X77 (.c (I 0))) 7,
 O p79 (.pick X75 (.c (.bool true)) X78) 8,
 O p80 (.mv X79) 9,
 OG p81 p80 false (.faddr 3 X1) 10,
 OG p82 p80 false (.load 1 false X81) 11,
 OG p83 p80 false (.bin .gtr .num X82 (.c (I 1000))) 12,
 O p84 (.pick X80 (.c (.bool true)) X83) 13,
 O p85 (.mv X84) 14,
 OG p86 p85 false (.faddr 10 X1) 15,
 OG p87 p85 false (.load 1 false X86) 16,
 OG p88 p85 false (.bin .lss .num X87 (.c (I (-1)))) 17,
 O p89 (.pick X85 (.c (.bool true)) X88) 18,
 O p90 (.mv X89) 19,
 OG p91 p90 false (.faddr 10 X1) 20,
 OG p92 p90 false (.load 1 false X91) 21,
 OG p93 p90 false (.bin .gtr .num X92 (.c (I 100))) 22,
 O p94 (.pick X90 (.c (.bool true)) X93) 23,
 O p95 (.mv X94) 24,
 OG p96 p95 false (.faddr 8 X1) 25,
 OG p97 p95 false (.load 1 false X96) 26,
 OG p98 p95 false (.un .not X97) 27,
 OG p99 p95 false (.mv X98) 28,
 OG p100 p99 true (.faddr 9 X1) 29,
 OG p101 p99 true (.load 1 false X100) 30,
 OG p102 p99 true (.len 1 X101) 31,
 OG p103 p99 true (.bin .gtr .num X102 (.c (I 0))) 32,
 OG p104 p95 false (.pick X99 X103 (.c (.bool false))) 33,
 O p105 (.pick X95 (.c (.bool true)) X104) 34] false
def c84_7 : CC := .reg [
 O p2 (.mv (.c (.bool false))) 0] false
def c84_8 : CC := .reg [
 O p106 (.faddr 4 X1) 0,
 O p107 (.load 1 false X106) 1,
 O p108 (.mv X107) 2,
 OG p109 p108 true (.faddr 5 X1) 3,
 OG p110 p108 true (.load 3 true X109) 4,
 OG p111 p108 true (.call (.c (.fn 122 [])) [X110]) 5,
 O p112 (.pick X108 X111 (.c (.bool false))) 6,
 O p113 (.mv X112) 7,
 OG p114 p113 false (.faddr 4 X1) 8,
 OG p115 p113 false (.load 1 false X114) 9,
 OG p116 p113 false (.un .not X115) 10,
 OG p117 p113 false (.mv X116) 11,
 OG p118 p117 true (.mv X3) 12,
 OG p119 p113 false (.pick X117 X118 (.c (.bool false))) 13,
 O p120 (.pick X113 (.c (.bool true)) X119) 14,
 O p2 (.mv X120) 15] false
def F84 : CF := .mk 121 [p0] 7 (.seq c84_0 (.seq c84_1 (.seq (.seq c84_2 (.cond X9 (.seq c84_3 .ret) .skip)) (.seq (.seq c84_4 (.cond X70 (.seq c84_5 .ret) .skip)) (.seq (.seq c84_6 (.cond X105 (.seq c84_7 .ret) .skip)) (.seq c84_8 .ret)))))) [.t p2] 3
/- daybook/value.Check -/
def c97_0 : CC := .reg [
 O p1 (.box 34 X0) 0,
 O p2 (.mv (.c (I 0))) 1] false
def c97_1 : CC := .reg [
 O p3 (.load 3 true X1) 0,
 O p4 (.call (.c (.fn 107 [])) [X3]) 1,
 O p5 (.un .not X4) 2] false
def c97_2 : CC := .reg [
 O p2 (.mv (.c (I 10))) 0] false
def c97_3 : CC := .reg [
 O p2 (.mv (.c (I 0))) 0] false
def F97 : CF := .mk 6 [p0] 3 (.seq c97_0 (.seq (.seq c97_1 (.cond X5 (.seq c97_2 .ret) .skip)) (.seq c97_3 .ret))) [.t p2] 1
/- daybook/text.tokens$1 -/
def c101_0 : CC := .reg [
 O p3 (.mv (.c (I 1))) 0,
 O p4 (.mv (.c (I 0))) 1] false
def c101_1 : CC := .reg [
 O p5 (.mv (.c (.bool false))) 0] false
def c101_2 : CC := .reg [
 O p6 (.mv (.c (I 0))) 0] false
def c101_3 : CC := .reg [
 O p13 (.mv X6) 0,
 O p14 (.load 1 false X1) 1,
 O p15 (.len 0 X14) 2,
 O p16 (.bin .lss .num X13 X15) 3] false
def c101_4 : CC := .reg [
 O p17 (.mv X3) 0,
 O p18 (.mv X6) 1,
 O p19 (.mv X4) 2,
 O p20 (.bin .sub .num X18 X19) 3,
 O p21 (.bin .add .num X20 (.c (I 1))) 4,
 O p22 (.build [(.str []), I 0, I 0, (.bool false)] [(1, 1, X17), (2, 1, X21)]) 5,
 O p7 (.alloc 124 [(.str []), I 0, I 0, (.bool false)]) 6,
 ON (.store 4 X7 X22) 7] false
def c101_5 : CC := .reg [
 O p23 (.load 1 false X1) 0,
 O p24 (.mv X6) 1,
 O p25 (.index X23 X24) 2,
 O p8 (.mv X25) 3] false
def c101_6 : CC := .reg [
 O p27 (.mv X8) 0,
 O p28 (.bin .eql .num X27 (.c (.int .u8 10))) 1,
 O p26 (.mv X28) 2] false
def c101_7 : CC := .reg [
 O p30 (.mv X8) 0,
 O p31 (.call (.c (.fn 102 [])) [X30]) 1,
 O p29 (.mv X31) 2] false
def c101_8 : CC := .reg [
 O p33 (.mv X8) 0,
 O p34 (.bin .eql .num X33 (.c (.int .u8 59))) 1,
 O p32 (.mv X34) 2] false
def c101_9 : CC := .reg [
 O p36 (.mv X8) 0,
 O p37 (.call (.c (.fn 103 [])) [(.c (.str [40, 91, 123, 41, 93, 125])), X36]) 1,
 O p38 (.bin .geq .num X37 (.c (I 0))) 2,
 O p35 (.mv X38) 3] false
def c101_10 : CC := .reg [
 O p39 (.mv X3) 0,
 O p40 (.bin .add .num X39 (.c (I 1))) 1,
 O p3 (.mv X40) 2] false
def c101_11 : CC := .reg [
 O p41 (.mv X6) 0,
 O p42 (.bin .add .num X41 (.c (I 1))) 1,
 O p4 (.mv X42) 2] false
def c101_12 : CC := .reg [
 O p5 (.mv (.c (.bool false))) 0] false
def c101_13 : CC := .reg [
 O p43 (.mv X6) 0,
 O p44 (.bin .add .num X43 (.c (I 1))) 1,
 O p6 (.mv X44) 2] false
def c101_14 : CC := .reg [
 O p45 (.mv X6) 0,
 O p46 (.load 1 false X1) 1,
 O p47 (.len 0 X46) 2,
 O p48 (.bin .lss .num X45 X47) 3,
 O p49 (.mv X48) 4,
 OG p50 p49 true (.load 1 false X1) 5,
 OG p51 p49 true (.mv X6) 6,
 OG p52 p49 true (.index X50 X51) 7,
 OG p53 p49 true (.bin .neq .num X52 (.c (.int .u8 10))) 8,
 O p54 (.pick X49 X53 (.c (.bool false))) 9] false
def c101_15 : CC := .reg [
 O p55 (.mv X6) 0,
 O p56 (.bin .add .num X55 (.c (I 1))) 1,
 O p6 (.mv X56) 2] false
def c101_16 : CC := .loop (.seq (.seq c101_14 (.cond X54 .skip (.exit 8))) (.blk 9 c101_15))
def c101_17 : CC := .reg [
 O p57 (.load 1 false X1) 0,
 O p58 (.mv X6) 1,
 O p59 (.mv X6) 2,
 O p60 (.bin .add .num X59 (.c (I 1))) 3,
 O p61 (.slices X57 (some X58) (some X60)) 4,
 O p62 (.faddr 0 X7) 5,
 ON (.store 1 X62 X61) 6,
 O p5 (.mv (.c (.bool false))) 7] false
def c101_18 : CC := .reg [
 O p64 (.load 1 false X1) 0,
 O p65 (.mv X6) 1,
 O p66 (.slices X64 (some X65) none) 2,
 O p67 (.call (.c (.fn 104 [])) [X66]) 3,
 O p63 (.mv X67) 4,
 O p68 (.ext 0 X63) 5,
 O p69 (.ext 1 X63) 6,
 O p9 (.mv X68) 7,
 O p10 (.mv X69) 8] false
def c101_19 : CC := .reg [
 O p70 (.mv X5) 0,
 O p71 (.mv X70) 1,
 OG p72 p71 false (.mv X10) 2,
 OG p73 p71 false (.un .not X72) 3,
 O p74 (.pick X71 (.c (.bool true)) X73) 4,
 O p75 (.faddr 3 X7) 5,
 ON (.store 1 X75 X74) 6] false
def c101_20 : CC := .reg [
 O p76 (.mv X5) 0,
 O p77 (.un .not X76) 1,
 O p78 (.mv X77) 2,
 OG p79 p78 true (.mv X10) 3,
 OG p80 p78 true (.un .not X79) 4,
 O p81 (.pick X78 X80 (.c (.bool false))) 5,
 O p82 (.mv X81) 6,
 OG p83 p82 true (.mv X8) 7,
 OG p84 p82 true (.bin .eql .num X83 (.c (.int .u8 34))) 8,
 O p85 (.pick X82 X84 (.c (.bool false))) 9] false
def c101_21 : CC := .reg [
 O p86 (.load 1 false X1) 0,
 O p87 (.mv X6) 1,
 O p88 (.slices X86 (some X87) none) 2,
 O p89 (.s2b X88) 3,
 O p90 (.len 1 X89) 4,
 O p91 (.mv (.c (I 0))) 5] false
def c101_22 : CC := .reg [
 O p92 (.bin .lss .num X91 X90) 0] false
def c101_23 : CC := .reg [
 O p93 (.iaddr 1 X89 X91) 0,
 O p94 (.load 1 false X93) 1,
 O p12 (.mv X94) 2] false
def c101_24 : CC := .reg [
 O p95 (.mv X6) 0,
 O p96 (.bin .add .num X95 (.c (I 1))) 1,
 O p6 (.mv X96) 2] false
def c101_25 : CC := .reg [
 O p97 (.mv X12) 0,
 O p98 (.bin .eql .num X97 (.c (.int .u8 10))) 1] false
def c101_26 : CC := .reg [
 O p99 (.mv X3) 0,
 O p100 (.bin .add .num X99 (.c (I 1))) 1,
 O p3 (.mv X100) 2] false
def c101_27 : CC := .reg [
 O p101 (.mv X6) 0,
 O p4 (.mv X101) 1] false
def c101_28 : CC := .reg [
 O p102 (.bin .add .num X91 (.c (I 1))) 0,
 O p91 (.mv X102) 1] false
def c101_29 : CC := .loop (.seq c101_22 (.seq (.cond X92 .skip (.exit 10)) (.seq (.blk 11 (.seq c101_23 (.seq c101_24 (.seq c101_25 (.cond X98 (.seq c101_26 c101_27) .skip))))) c101_28)))
def c101_30 : CC := .reg [
 O p103 (.mv X3) 0,
 O p104 (.mv X6) 1,
 O p105 (.mv X4) 2,
 O p106 (.bin .sub .num X104 X105) 3,
 O p107 (.bin .add .num X106 (.c (I 1))) 4,
 O p108 (.faddr 1 X7) 5,
 ON (.store 1 X108 X103) 6,
 O p109 (.faddr 2 X7) 7,
 ON (.store 1 X109 X107) 8] false
def c101_31 : CC := .reg [
 O p110 (.faddr 3 X7) 0,
 O p111 (.load 1 false X110) 1] false
def c101_32 : CC := .reg [
 O p112 (.mv X0) 0,
 O p113 (.load 4 true X7) 1,
 O p114 (.call X112 [X113]) 2] false
def c101_33 : CC := .reg [
 O p115 (.load 1 false X1) 0,
 O p116 (.mv X6) 1,
 O p117 (.mv X6) 2,
 O p118 (.mv X9) 3,
 O p119 (.bin .add .num X117 X118) 4,
 O p120 (.slices X115 (some X116) (some X119)) 5,
 O p121 (.faddr 0 X7) 6,
 ON (.store 1 X121 X120) 7,
 O p5 (.mv (.c (.bool true))) 8] false
def c101_34 : CC := .reg [
 O p122 (.mv X0) 0,
 O p123 (.load 4 true X7) 1,
 O p124 (.call X122 [X123]) 2,
 O p125 (.un .not X124) 3] false
def c101_35 : CC := .reg [
 O p126 (.mv X6) 0,
 O p127 (.faddr 0 X7) 1,
 O p128 (.load 1 false X127) 2,
 O p129 (.len 0 X128) 3,
 O p130 (.bin .add .num X126 X129) 4,
 O p6 (.mv X130) 5] false
def c101_36 : CC := .loop (.seq (.seq c101_3 (.cond X16 .skip (.exit 0))) (.blk 1 (.seq c101_4 (.seq (.seq c101_5 (.blk 2 (.seq (.blk 7 (.seq (.blk 6 (.seq (.blk 5 (.seq (.blk 4 (.seq (.blk 3 (.seq (.seq (.seq c101_6 (.cond X26 (.exit 3) .skip)) (.seq (.seq c101_7 (.cond X29 (.exit 4) .skip)) (.seq (.seq c101_8 (.cond X32 (.exit 5) .skip)) (.seq c101_9 (.cond X35 (.exit 6) .skip))))) (.exit 7))) (.seq c101_10 c101_11))) (.seq (.seq c101_12 (.seq c101_13 (.exit 1))) (.exit 2)))) (.seq (.seq (.blk 8 c101_16) (.exit 1)) (.exit 2)))) (.seq c101_17 (.exit 2)))) (.seq (.seq c101_18 (.seq c101_19 (.seq (.seq c101_20 (.cond X85 (.seq (.seq c101_21 (.blk 10 c101_29)) c101_30) .skip)) (.seq (.seq c101_31 (.cond X111 (.seq c101_32 .ret) .skip)) c101_33)))) (.exit 2))))) (.seq (.seq c101_34 (.cond X125 .ret .skip)) c101_35)))))
def c101_37 : CC := .reg [
 O p131 (.mv X0) 0,
 O p132 (.mv X3) 1,
 O p133 (.load 1 false X1) 2,
 O p134 (.len 0 X133) 3,
 O p135 (.mv X4) 4,
 O p136 (.bin .sub .num X134 X135) 5,
 O p137 (.bin .add .num X136 (.c (I 1))) 6,
 O p138 (.build [(.str []), I 0, I 0, (.bool false)] [(1, 1, X132), (2, 1, X137)]) 7,
 O p139 (.call X131 [X138]) 8] false
def F101 : CF := .mk 140 [p0, p1] 8 (.scope (.seq c101_0 (.seq c101_1 (.seq .skip (.seq (.seq c101_2 (.blk 0 c101_36)) c101_37))))) [] 0
/- daybook/text.blank -/
def c102_0 : CC := .reg [
 O p2 (.mv (.c (.bool false))) 0] false
def c102_1 : CC := .reg [
 O p3 (.mv X0) 0,
 O p4 (.bin .eql .num X3 (.c (.int .u8 32))) 1,
 O p5 (.mv X4) 2,
 OG p6 p5 false (.mv X0) 3,
 OG p7 p5 false (.bin .eql .num X6 (.c (.int .u8 9))) 4,
 O p8 (.pick X5 (.c (.bool true)) X7) 5,
 O p9 (.mv X8) 6,
 OG p10 p9 false (.mv X0) 7,
 OG p11 p9 false (.bin .eql .num X10 (.c (.int .u8 10))) 8,
 O p12 (.pick X9 (.c (.bool true)) X11) 9,
 O p13 (.mv X12) 10,
 OG p14 p13 false (.mv X0) 11,
 OG p15 p13 false (.bin .eql .num X14 (.c (.int .u8 13))) 12,
 O p16 (.pick X13 (.c (.bool true)) X15) 13,
 O p2 (.mv X16) 14] false
def F102 : CF := .mk 17 [p0] 5 (.seq c102_0 (.seq c102_1 .ret)) [.t p2] 3
/- daybook/text.size -/
def c104_0 : CC := .reg [
 O p2 (.mv (.c (I 0))) 0,
 O p3 (.mv (.c (.bool false))) 1] false
def c104_1 : CC := .reg [
 O p7 (.mv X0) 0,
 O p8 (.index X7 (.c (I 0))) 1,
 O p9 (.bin .eql .num X8 (.c (.int .u8 34))) 2] false
def c104_2 : CC := .reg [
 O p10 (.mv X0) 0,
 O p11 (.slices X10 (some (.c (I 1))) none) 1,
 O p12 (.call (.c (.fn 103 [])) [X11, (.c (.int .u8 34))]) 2,
 O p4 (.mv X12) 3] false
def c104_3 : CC := .reg [
 O p13 (.mv X4) 0,
 O p14 (.bin .add .num X13 (.c (I 2))) 1,
 O p15 (.mv X4) 2,
 O p16 (.bin .geq .num X15 (.c (I 0))) 3,
 O p2 (.mv X14) 4,
 O p3 (.mv X16) 5] false
def c104_4 : CC := .reg [
 O p5 (.mv (.c (.fn 145 []))) 0] false
def c104_5 : CC := .reg [
 O p6 (.mv (.c (I 0))) 0] false
def c104_6 : CC := .reg [
 O p17 (.mv X6) 0,
 O p18 (.mv X0) 1,
 O p19 (.len 0 X18) 2,
 O p20 (.bin .lss .num X17 X19) 3,
 O p21 (.mv X20) 4,
 OG p22 p21 true (.mv X5) 5,
 OG p23 p21 true (.mv X0) 6,
 OG p24 p21 true (.mv X6) 7,
 OG p25 p21 true (.index X23 X24) 8,
 OG p26 p21 true (.call X22 [X25]) 9,
 O p27 (.pick X21 X26 (.c (.bool false))) 10] false
def c104_7 : CC := .reg [
 O p28 (.mv X6) 0,
 O p29 (.bin .add .num X28 (.c (I 1))) 1,
 O p6 (.mv X29) 2] false
def c104_8 : CC := .loop (.seq (.seq c104_6 (.cond X27 .skip (.exit 0))) (.blk 1 c104_7))
def c104_9 : CC := .reg [
 O p30 (.mv X6) 0,
 O p31 (.mv X6) 1,
 O p32 (.bin .gtr .num X31 (.c (I 0))) 2,
 O p2 (.mv X30) 3,
 O p3 (.mv X32) 4] false
def F104 : CF := .mk 33 [p0] 6 (.seq c104_0 (.seq (.seq c104_1 (.cond X9 (.seq c104_2 (.seq c104_3 .ret)) .skip)) (.seq c104_4 (.seq c104_5 (.seq (.blk 0 c104_8) (.seq c104_9 .ret)))))) [.t p2, .t p3] 3
/- daybook/value.read -/
def c106_0 : CC := .reg [
 O p2 (.alloc 34 [I 0, I 0, (.str [])]) 0,
 O p3 (.alloc 4 [(.bool false)]) 1] false
def c106_1 : CC := .reg [
 O p18 (.mv X0) 0,
 O p19 (.bin .eql .num X18 (.c (.str []))) 1] false
def c106_2 : CC := .reg [
 O p20 (.build [I 0, I 0, (.str [])] []) 0,
 ON (.store 3 X2 X20) 1,
 ON (.store 1 X3 (.c (.bool false))) 2] false
def c106_3 : CC := .reg [
 O p21 (.mv X0) 0,
 O p22 (.slices X21 (some (.c (I 1))) none) 1,
 O p4 (.mv X22) 2] false
def c106_4 : CC := .reg [
 O p23 (.mv X0) 0,
 O p24 (.index X23 (.c (I 0))) 1] false
def c106_5 : CC := .reg [
 O p26 (.bin .eql .num X24 (.c (.int .u8 116))) 0,
 O p25 (.mv X26) 1] false
def c106_6 : CC := .reg [
 O p27 (.bin .eql .num X24 (.c (.int .u8 102))) 0,
 O p25 (.mv X27) 1] false
def c106_7 : CC := .reg [
 O p28 (.mv X0) 0,
 O p29 (.len 0 X28) 1,
 O p30 (.bin .sub .num (.c (I 5)) X29) 2,
 O p31 (.build [I 0, I 0, (.str [])] [(0, 1, (.c (I 2))), (1, 1, X30)]) 3,
 O p32 (.mv X0) 4,
 O p33 (.bin .eql .num X32 (.c (.str [116, 114, 117, 101]))) 5,
 O p34 (.mv X33) 6,
 OG p35 p34 false (.mv X0) 7,
 OG p36 p34 false (.bin .eql .num X35 (.c (.str [102, 97, 108, 115, 101]))) 8,
 O p37 (.pick X34 (.c (.bool true)) X36) 9,
 ON (.store 3 X2 X31) 10,
 ON (.store 1 X3 X37) 11] false
def c106_8 : CC := .reg [
 O p39 (.bin .eql .num X24 (.c (.int .u8 64))) 0,
 O p38 (.mv X39) 1] false
def c106_9 : CC := .reg [
 O p41 (.mv X4) 0,
 O p42 (.call (.c (.fn 149 [])) [X41]) 1,
 O p40 (.mv X42) 2,
 O p43 (.ext 0 X40) 3,
 O p44 (.ext 1 X40) 4,
 O p5 (.mv X43) 5,
 O p6 (.mv X44) 6] false
def c106_10 : CC := .reg [
 O p45 (.mv X5) 0,
 O p46 (.build [I 0, I 0, (.str [])] [(0, 1, (.c (I 5))), (1, 1, X45)]) 1,
 O p47 (.mv X6) 2,
 ON (.store 3 X2 X46) 3,
 ON (.store 1 X3 X47) 4] false
def c106_11 : CC := .reg [
 O p49 (.bin .eql .num X24 (.c (.int .u8 33))) 0,
 O p48 (.mv X49) 1] false
def c106_12 : CC := .reg [
 O p51 (.mv X4) 0,
 O p52 (.call (.c (.fn 149 [])) [X51]) 1,
 O p50 (.mv X52) 2,
 O p53 (.ext 0 X50) 3,
 O p54 (.ext 1 X50) 4,
 O p7 (.mv X53) 5,
 O p8 (.mv X54) 6] false
def c106_13 : CC := .reg [
 O p55 (.mv X7) 0,
 O p56 (.build [I 0, I 0, (.str [])] [(0, 1, (.c (I 6))), (1, 1, X55)]) 1,
 O p57 (.mv X8) 2,
 ON (.store 3 X2 X56) 3,
 ON (.store 1 X3 X57) 4] false
def c106_14 : CC := .reg [
 O p59 (.bin .eql .num X24 (.c (.int .u8 58))) 0,
 O p58 (.mv X59) 1] false
def c106_15 : CC := .reg [
 O p60 (.mv X4) 0,
 O p61 (.build [I 0, I 0, (.str [])] [(0, 1, (.c (I 7))), (2, 1, X60)]) 1,
 ON (.store 3 X2 X61) 2,
 ON (.store 1 X3 (.c (.bool true))) 3] false
def c106_16 : CC := .reg [
 O p63 (.bin .eql .num X24 (.c (.int .u8 35))) 0,
 O p62 (.mv X63) 1] false
def c106_17 : CC := .reg [
 O p9 (.alloc 148 [.nilp, .nils]) 0] false
def c106_18 : CC := .reg [
 O p64 (.mv X4) 0,
 O p65 (.call (.c (.fn 150 [])) [X64]) 1] false
def c106_19 : CC := .reg [
 O p10 (.mv X66) 0] false
def c106_20 : CC := .reg [
 O p11 (.mv X67) 0] false
def c106_21 : CC := .reg [
 O p68 (.mv X11) 0,
 O p69 (.un .not X68) 1] false
def c106_22 : CC := .reg [
 O p70 (.build [I 0, I 0, (.str [])] []) 0,
 ON (.store 3 X2 X70) 1,
 ON (.store 1 X3 (.c (.bool false))) 2] false
def c106_23 : CC := .reg [
 O p71 (.mv X10) 0,
 O p72 (.call (.c (.fn 151 [])) [X9, X71]) 1] false
def c106_24 : CC := .rng X65 [p66, p67] (.seq c106_19 c106_20) (.blk 2 (.seq (.seq c106_21 (.cond X69 (.seq c106_22 .ret) .skip)) c106_23))
def c106_25 : CC := .reg [
 O p73 (.call (.c (.fn 86 [])) [X9]) 0,
 O p74 (.build [I 0, I 0, (.str [])] [(0, 1, (.c (I 4))), (2, 1, X73)]) 1,
 ON (.store 3 X2 X74) 2,
 ON (.store 1 X3 (.c (.bool true))) 3] false
def c106_26 : CC := .reg [
 O p76 (.bin .eql .num X24 (.c (.int .u8 34))) 0,
 O p75 (.mv X76) 1] false
def c106_27 : CC := .reg [
 O p78 (.mv X4) 0,
 O p79 (.call (.c (.fn 152 [])) [X78, (.c (.str [34]))]) 1,
 O p77 (.mv X79) 2,
 O p80 (.ext 0 X77) 3,
 O p81 (.ext 1 X77) 4,
 O p12 (.mv X80) 5,
 O p13 (.mv X81) 6] false
def c106_28 : CC := .reg [
 O p83 (.mv X12) 0,
 O p84 (.call (.c (.fn 153 [])) [X83]) 1,
 O p82 (.mv X84) 2,
 O p85 (.ext 0 X82) 3,
 O p86 (.ext 1 X82) 4,
 O p14 (.mv X85) 5,
 O p15 (.mv X86) 6] false
def c106_29 : CC := .reg [
 O p87 (.mv X14) 0,
 O p88 (.build [I 0, I 0, (.str [])] [(0, 1, (.c (I 3))), (2, 1, X87)]) 1,
 O p89 (.mv X13) 2,
 O p90 (.mv X89) 3,
 OG p91 p90 true (.mv X15) 4,
 O p92 (.pick X90 X91 (.c (.bool false))) 5,
 ON (.store 3 X2 X88) 6,
 ON (.store 1 X3 X92) 7] false
def c106_30 : CC := .reg [
 O p94 (.mv X0) 0,
 O p95 (.call (.c (.fn 149 [])) [X94]) 1,
 O p93 (.mv X95) 2,
 O p96 (.ext 0 X93) 3,
 O p97 (.ext 1 X93) 4,
 O p16 (.mv X96) 5,
 O p17 (.mv X97) 6] false
def c106_31 : CC := .reg [
 O p98 (.mv X16) 0,
 O p99 (.build [I 0, I 0, (.str [])] [(0, 1, (.c (I 1))), (1, 1, X98)]) 1,
 O p100 (.mv X17) 2,
 ON (.store 3 X2 X99) 3,
 ON (.store 1 X3 X100) 4] false
def F106 : CF := .mk 101 [p0] 7 (.seq c106_0 (.seq (.seq c106_1 (.cond X19 (.seq c106_2 .ret) .skip)) (.seq c106_3 (.seq (.seq c106_4 (.blk 0 (.seq (.seq c106_5 (.cond X25 .skip c106_6)) (.cond X25 (.seq c106_7 .ret) (.seq c106_8 (.cond X38 (.seq c106_9 (.seq c106_10 .ret)) (.seq c106_11 (.cond X48 (.seq c106_12 (.seq c106_13 .ret)) (.seq c106_14 (.cond X58 (.seq c106_15 .ret) (.seq c106_16 (.cond X62 (.seq c106_17 (.seq (.seq c106_18 (.blk 1 c106_24)) (.seq c106_25 .ret))) (.seq c106_26 (.cond X75 (.seq c106_27 (.seq c106_28 (.seq c106_29 .ret))) .skip)))))))))))))) (.seq c106_30 (.seq c106_31 .ret)))))) [.cell p2 3 true, .cell p3 1 false] 3
/- daybook/value.may -/
def c107_0 : CC := .reg [
 O p1 (.box 34 X0) 0,
 O p2 (.mv (.c (.bool false))) 1] false
def c107_1 : CC := .reg [
 O p3 (.faddr 0 X1) 0,
 O p4 (.load 1 false X3) 1] false
def c107_2 : CC := .reg [
 O p6 (.bin .eql .num X4 (.c (I 2))) 0,
 O p5 (.mv X6) 1] false
def c107_3 : CC := .reg [
 O p8 (.bin .eql .num X4 (.c (I 1))) 0,
 O p7 (.mv X8) 1] false
def c107_4 : CC := .reg [
 O p9 (.bin .eql .num X4 (.c (I 6))) 0,
 O p7 (.mv X9) 1] false
def c107_5 : CC := .reg [
 O p11 (.bin .eql .num X4 (.c (I 5))) 0,
 O p10 (.mv X11) 1] false
def c107_6 : CC := .reg [
 O p13 (.bin .eql .num X4 (.c (I 3))) 0,
 O p12 (.mv X13) 1] false
def c107_7 : CC := .reg [
 O p14 (.bin .eql .num X4 (.c (I 4))) 0,
 O p12 (.mv X14) 1] false
def c107_8 : CC := .reg [
 O p16 (.bin .eql .num X4 (.c (I 7))) 0,
 O p15 (.mv X16) 1] false
def c107_9 : CC := .reg [
 O p17 (.faddr 1 X1) 0,
 O p18 (.load 1 false X17) 1,
 O p19 (.bin .lss .num X18 (.c (I 0))) 2,
 O p20 (.mv X19) 3,
 OG p21 p20 false (.faddr 1 X1) 4,
 OG p22 p20 false (.load 1 false X21) 5,
 OG p23 p20 false (.bin .gtr .num X22 (.c (I 1))) 6,
 O p24 (.pick X20 (.c (.bool true)) X23) 7] false
def c107_10 : CC := .reg [
 O p2 (.mv (.c (.bool false))) 0] false
def c107_11 : CC := .reg [
 O p25 (.faddr 2 X1) 0,
 O p26 (.load 1 false X25) 1,
 O p27 (.bin .eql .num X26 (.c (.str []))) 2,
 O p2 (.mv X27) 3] false
def c107_12 : CC := .reg [
 O p28 (.faddr 2 X1) 0,
 O p29 (.load 1 false X28) 1,
 O p30 (.bin .eql .num X29 (.c (.str []))) 2,
 O p31 (.mv X30) 3,
 OG p32 p31 true (.faddr 1 X1) 4,
 OG p33 p31 true (.load 1 false X32) 5,
 OG p34 p31 true (.bin .geq .num X33 (.c (I 0))) 6,
 O p35 (.pick X31 X34 (.c (.bool false))) 7,
 O p36 (.mv X35) 8,
 OG p37 p36 true (.faddr 1 X1) 9,
 OG p38 p36 true (.load 1 false X37) 10,
 OG p39 p36 true (.bin .lss .num X38 (.c (I 9007199254740992))) 11,
 O p40 (.pick X36 X39 (.c (.bool false))) 12,
 O p2 (.mv X40) 13] false
def c107_13 : CC := .reg [
 O p41 (.faddr 1 X1) 0,
 O p42 (.load 1 false X41) 1,
 O p43 (.bin .eql .num X42 (.c (I 0))) 2,
 O p44 (.mv X43) 3,
 OG p45 p44 true (.faddr 2 X1) 4,
 OG p46 p44 true (.load 1 false X45) 5,
 OG p47 p44 true (.len 0 X46) 6,
 OG p48 p44 true (.bin .leq .num X47 (.c (I 1000))) 7,
 O p49 (.pick X44 X48 (.c (.bool false))) 8,
 O p2 (.mv X49) 9] false
def c107_14 : CC := .reg [
 O p50 (.faddr 1 X1) 0,
 O p51 (.load 1 false X50) 1,
 O p52 (.bin .eql .num X51 (.c (I 0))) 2,
 O p53 (.mv X52) 3,
 OG p54 p53 true (.faddr 2 X1) 4,
 OG p55 p53 true (.load 1 false X54) 5,
 OG p56 p53 true (.call (.c (.fn 154 [])) [X55]) 6,
 O p57 (.pick X53 X56 (.c (.bool false))) 7,
 O p2 (.mv X57) 8] false
def c107_15 : CC := .reg [
 O p2 (.mv (.c (.bool false))) 0] false
def F107 : CF := .mk 58 [p0] 6 (.seq c107_0 (.seq (.seq c107_1 (.blk 0 (.seq (.blk 5 (.seq (.blk 4 (.seq (.blk 3 (.seq (.blk 2 (.seq (.blk 1 (.seq (.seq (.seq c107_2 (.cond X5 (.exit 1) .skip)) (.seq (.seq (.seq c107_3 (.cond X7 .skip c107_4)) (.cond X7 (.exit 2) .skip)) (.seq (.seq c107_5 (.cond X10 (.exit 3) .skip)) (.seq (.seq (.seq c107_6 (.cond X12 .skip c107_7)) (.cond X12 (.exit 4) .skip)) (.seq c107_8 (.cond X15 (.exit 5) .skip)))))) (.exit 0))) (.seq c107_9 (.cond X24 (.seq c107_10 .ret) .skip)))) (.seq (.seq c107_11 .ret) (.exit 0)))) (.seq (.seq c107_12 .ret) (.exit 0)))) (.seq (.seq c107_13 .ret) (.exit 0)))) (.seq (.seq c107_14 .ret) (.exit 0))))) (.seq c107_15 .ret))) [.t p2] 1
/- daybook/text.Named$1 -/
def c108_0 : CC := .reg [
 O p3 (.mv (.c (.bool false))) 0] false
def c108_1 : CC := .reg [
 O p4 (.mv X0) 0,
 O p5 (.load 1 false X1) 1,
 O p6 (.len 0 X5) 2,
 O p7 (.bin .lss .num X4 X6) 3,
 O p8 (.mv X7) 4,
 OG p9 p8 true (.load 1 false X1) 5,
 OG p10 p8 true (.mv X0) 6,
 OG p11 p8 true (.index X9 X10) 7,
 OG p12 p8 true (.bin .geq .num X11 (.c (.int .u8 48))) 8,
 O p13 (.pick X8 X12 (.c (.bool false))) 9,
 O p14 (.mv X13) 10,
 OG p15 p14 true (.load 1 false X1) 11,
 OG p16 p14 true (.mv X0) 12,
 OG p17 p14 true (.index X15 X16) 13,
 OG p18 p14 true (.bin .leq .num X17 (.c (.int .u8 57))) 14,
 O p19 (.pick X14 X18 (.c (.bool false))) 15,
 O p3 (.mv X19) 16] false
def F108 : CF := .mk 20 [p0, p1] 5 (.seq c108_0 (.seq c108_1 .ret)) [.t p3] 0
/- daybook/shape.is -/
def c112_0 : CC := .reg [
 O p2 (.box 36 X0) 0,
 O p4 (.mv (.c (.bool false))) 1] false
def c112_1 : CC := .reg [
 O p5 (.faddr 0 X2) 0,
 O p6 (.load 1 false X5) 1,
 O p7 (.bin .eql .num X6 (.c (I 2))) 2,
 O p8 (.mv X7) 3,
 OG p9 p8 true (.faddr 4 X2) 4,
 OG p10 p8 true (.load 1 false X9) 5,
 OG p11 p8 true (.mv X1) 6,
 OG p12 p8 true (.bin .eql .num X10 X11) 7,
 O p13 (.pick X8 X12 (.c (.bool false))) 8,
 O p4 (.mv X13) 9] false
def F112 : CF := .mk 14 [p0, p1] 4 (.seq c112_0 (.seq c112_1 .ret)) [.t p4] 3
/- daybook/shape.headed -/
def c113_0 : CC := .reg [
 O p1 (.box 36 X0) 0,
 O p2 (.alloc 44 [(.bool false), (.str []), (.bool false), I 0, (.bool false), I 0, I 0, (.str []), (.bool false), .nils, I 0]) 1,
 O p3 (.mv (.c (.bool false))) 2] false
def c113_1 : CC := .reg [
 O p4 (.alloc 44 [(.bool false), (.str []), (.bool false), I 0, (.bool false), I 0, I 0, (.str []), (.bool false), .nils, I 0]) 0] false
def c113_2 : CC := .reg [
 O p7 (.load 8 true X1) 0,
 O p8 (.bslice 36 8 [I 0, I 0, I 0, (.str []), (.str []), .nils, I 0, I 0] 1 [(0, X7)]) 1,
 O p5 (.mv X8) 2] false
def c113_3 : CC := .reg [
 O p9 (.faddr 0 X1) 0,
 O p10 (.load 1 false X9) 1,
 O p11 (.bin .eql .num X10 (.c (I 3))) 2] false
def c113_4 : CC := .reg [
 O p12 (.faddr 5 X1) 0,
 O p13 (.load 1 false X12) 1,
 O p5 (.mv X13) 2] false
def c113_5 : CC := .reg [
 O p14 (.mv X5) 0,
 O p15 (.len 1 X14) 1,
 O p16 (.bin .lss .num X15 (.c (I 2))) 2] false
def c113_6 : CC := .reg [
 O p17 (.load 11 true X4) 0,
 ON (.store 11 X2 X17) 1,
 O p3 (.mv (.c (.bool false))) 2] false
def c113_7 : CC := .reg [
 O p18 (.mv X5) 0,
 O p19 (.iaddr 8 X18 (.c (I 0))) 1,
 O p20 (.faddr 0 X19) 2,
 O p21 (.load 1 false X20) 3,
 O p22 (.bin .neq .num X21 (.c (I 1))) 4,
 O p23 (.mv X22) 5,
 OG p24 p23 false (.mv X5) 6,
 OG p25 p23 false (.iaddr 8 X24 (.c (I 0))) 7,
 OG p26 p23 false (.faddr 1 X25) 8,
 OG p27 p23 false (.faddr 0 X26) 9,
 OG p28 p23 false (.load 1 false X27) 10,
 OG p29 p23 false (.bin .neq .num X28 (.c (I 7))) 11,
 O p30 (.pick X23 (.c (.bool true)) X29) 12] false
def c113_8 : CC := .reg [
 O p31 (.load 11 true X4) 0,
 ON (.store 11 X2 X31) 1,
 O p3 (.mv (.c (.bool false))) 2] false
def c113_9 : CC := .reg [
 O p32 (.mv X5) 0,
 O p33 (.iaddr 8 X32 (.c (I 0))) 1,
 O p34 (.faddr 1 X33) 2,
 O p35 (.faddr 2 X34) 3,
 O p36 (.load 1 false X35) 4,
 O p37 (.faddr 1 X4) 5,
 ON (.store 1 X37 X36) 6] false
def c113_10 : CC := .reg [
 O p38 (.mv X5) 0,
 O p39 (.slice 8 X38 (some (.c (I 1))) none none) 1,
 O p40 (.call (.c (.fn 157 [])) [X4, X39]) 2,
 O p6 (.mv X40) 3] false
def c113_11 : CC := .reg [
 O p41 (.load 11 true X4) 0,
 O p42 (.mv X6) 1,
 ON (.store 11 X2 X41) 2,
 O p3 (.mv X42) 3] false
def F113 : CF := .mk 43 [p0] 6 (.seq c113_0 (.seq c113_1 (.seq c113_2 (.seq (.seq c113_3 (.cond X11 (.seq c113_4 (.seq c113_5 (.cond X16 (.seq c113_6 .ret) .skip))) .skip)) (.seq (.seq c113_7 (.cond X30 (.seq c113_8 .ret) .skip)) (.seq c113_9 (.seq c113_10 (.seq c113_11 .ret)))))))) [.cell p2 11 true, .t p3] 3
/- daybook/shape.whole -/
def c114_0 : CC := .reg [
 O p1 (.box 36 X0) 0,
 O p2 (.mv (.c (I 0))) 1,
 O p3 (.mv (.c (.bool false))) 2] false
def c114_1 : CC := .reg [
 O p4 (.faddr 1 X1) 0,
 O p5 (.faddr 1 X4) 1,
 O p6 (.load 1 false X5) 2,
 O p7 (.faddr 0 X1) 3,
 O p8 (.load 1 false X7) 4,
 O p9 (.bin .eql .num X8 (.c (I 1))) 5,
 O p10 (.mv X9) 6,
 OG p11 p10 true (.faddr 1 X1) 7,
 OG p12 p10 true (.faddr 0 X11) 8,
 OG p13 p10 true (.load 1 false X12) 9,
 OG p14 p10 true (.bin .eql .num X13 (.c (I 1))) 10,
 O p15 (.pick X10 X14 (.c (.bool false))) 11,
 O p16 (.mv X15) 12,
 OG p17 p16 true (.faddr 1 X1) 13,
 OG p18 p16 true (.faddr 1 X17) 14,
 OG p19 p16 true (.load 1 false X18) 15,
 OG p20 p16 true (.bin .geq .num X19 (.c (I 1))) 16,
 O p21 (.pick X16 X20 (.c (.bool false))) 17,
 O p22 (.mv X21) 18,
 OG p23 p22 true (.faddr 1 X1) 19,
 OG p24 p22 true (.faddr 1 X23) 20,
 OG p25 p22 true (.load 1 false X24) 21,
 OG p26 p22 true (.bin .leq .num X25 (.c (I 1000))) 22,
 O p27 (.pick X22 X26 (.c (.bool false))) 23,
 O p2 (.mv X6) 24,
 O p3 (.mv X27) 25] true
def F114 : CF := .mk 28 [p0] 5 (.seq c114_0 (.seq c114_1 .ret)) [.t p2, .t p3] 3
/- daybook/shape.lists$1 -/
def c115_0 : CC := .reg [
 O p3 (.box 187 X0) 0] false
def c115_1 : CC := .reg [
 O p8 (.load 1 false X3) 0,
 O p9 (.load 1 false X1) 1,
 O p10 (.load 1 false X2) 2,
 O p11 (.call X8 [X9, X10]) 3,
 O p12 (.un .not X11) 4,
 O p13 (.mv X12) 5,
 OG p14 p13 false (.load 1 false X1) 6,
 OG p15 p13 false (.bin .gtr .num X14 (.c (I 20))) 7,
 O p16 (.pick X13 (.c (.bool true)) X15) 8] false
def c115_2 : CC := .reg [
 O p17 (.load 1 false X2) 0,
 O p18 (.len 1 X17) 1,
 O p19 (.mv (.c (I 0))) 2] false
def c115_3 : CC := .reg [
 O p20 (.bin .lss .num X19 X18) 0] false
def c115_4 : CC := .reg [
 O p21 (.iaddr 11 X17 X19) 0,
 O p22 (.load 11 true X21) 1,
 O p5 (.alloc 44 [(.bool false), (.str []), (.bool false), I 0, (.bool false), I 0, I 0, (.str []), (.bool false), .nils, I 0]) 2,
 ON (.store 11 X5 X22) 3] false
def c115_5 : CC := .reg [
 O p23 (.faddr 9 X5) 0,
 O p24 (.load 1 false X23) 1,
 O p25 (.load 1 false X1) 2,
 O p26 (.bin .add .num X25 (.c (I 1))) 3,
 O p27 (.call (.c (.fn 73 [])) [X24, X26]) 4] false
def c115_6 : CC := .reg [
 O p6 (.mv X28) 0] false
def c115_7 : CC := .reg [
 O p7 (.mv X29) 0] false
def c115_8 : CC := .reg [
 O p30 (.faddr 8 X5) 0,
 O p31 (.load 1 false X30) 1,
 O p32 (.mv X31) 2,
 OG p33 p32 true (.load 1 false X3) 3,
 OG p34 p32 true (.mv X6) 4,
 OG p35 p32 true (.mv X7) 5,
 OG p36 p32 true (.call X33 [X34, X35]) 6,
 OG p37 p32 true (.un .not X36) 7,
 O p38 (.pick X32 X37 (.c (.bool false))) 8] false
def c115_9 : CC := .rng X27 [p28, p29] (.seq c115_6 c115_7) (.blk 3 (.seq c115_8 (.cond X38 .ret .skip)))
def c115_10 : CC := .reg [
 O p39 (.bin .add .num X19 (.c (I 1))) 0,
 O p19 (.mv X39) 1] false
def c115_11 : CC := .loop (.seq c115_3 (.seq (.cond X20 .skip (.exit 0)) (.seq (.blk 1 (.seq c115_4 (.seq c115_5 (.blk 2 c115_9)))) c115_10)))
def F115 : CF := .mk 40 [p0, p1, p2] 6 (.seq c115_0 (.seq (.seq c115_1 (.cond X16 .ret .skip)) (.seq c115_2 (.blk 0 c115_11)))) [] 0
/- daybook/shape.word -/
def c116_0 : CC := .reg [
 O p2 (.alloc 34 [I 0, I 0, (.str [])]) 0] false
def c116_1 : CC := .reg [
 O p3 (.mv X0) 0,
 O p4 (.build [I 0, I 0, (.str [])] [(0, 1, (.c (I 7))), (2, 1, X3)]) 1,
 ON (.store 3 X2 X4) 2] false
def F116 : CF := .mk 5 [p0] 3 (.seq c116_0 (.seq c116_1 .ret)) [.cell p2 3 true] 3
/- slices.IndexFunc[[]daybook/api.Item,daybook/api.Item] -/
def c117_0 : CC := .reg [
 O p4 (.mv (.c (I 0))) 0] false
def c117_1 : CC := .reg [
 O p6 (.mv X0) 0,
 O p7 (.len 1 X6) 1,
 O p8 (.mv (.c (I 0))) 2] false
def c117_2 : CC := .reg [
 O p9 (.bin .lss .num X8 X7) 0] false
def c117_3 : CC := .reg [
 O p10 (.mv X8) 0,
 O p5 (.mv X10) 1] false
def c117_4 : CC := .reg [
 O p11 (.mv X1) 0,
 O p12 (.mv X0) 1,
 O p13 (.mv X5) 2,
 O p14 (.iaddr 11 X12 X13) 3,
 O p15 (.load 11 true X14) 4,
 O p16 (.call X11 [X15]) 5] false
def c117_5 : CC := .reg [
 O p17 (.mv X5) 0,
 O p4 (.mv X17) 1] false
def c117_6 : CC := .reg [
 O p18 (.bin .add .num X8 (.c (I 1))) 0,
 O p8 (.mv X18) 1] false
def c117_7 : CC := .loop (.seq c117_2 (.seq (.cond X9 .skip (.exit 0)) (.seq (.blk 1 (.seq c117_3 (.seq c117_4 (.cond X16 (.seq c117_5 .ret) .skip)))) c117_6)))
def c117_8 : CC := .reg [
 O p4 (.mv (.c (I (-1)))) 0] false
def F117 : CF := .mk 19 [p0, p1] 5 (.seq c117_0 (.seq (.seq c117_1 (.blk 0 c117_7)) (.seq c117_8 .ret))) [.t p4] 2
/- daybook/shape.named -/
def c118_0 : CC := .reg [
 O p2 (.alloc 36 [I 0, I 0, I 0, (.str []), (.str []), .nils, I 0, I 0]) 0] false
def c118_1 : CC := .reg [
 O p3 (.mv X0) 0,
 O p4 (.build [I 0, I 0, I 0, (.str []), (.str []), .nils, I 0, I 0] [(0, 1, (.c (I 2))), (4, 1, X3)]) 1,
 ON (.store 8 X2 X4) 2] false
def F118 : CF := .mk 5 [p0] 3 (.seq c118_0 (.seq c118_1 .ret)) [.cell p2 8 true] 3
/- daybook/shape.number -/
def c119_0 : CC := .reg [
 O p2 (.alloc 36 [I 0, I 0, I 0, (.str []), (.str []), .nils, I 0, I 0]) 0] false
def c119_1 : CC := .reg [
 O p3 (.mv X0) 0,
 O p4 (.build [I 0, I 0, (.str [])] [(0, 1, (.c (I 1))), (1, 1, X3)]) 1,
 O p5 (.call (.c (.fn 158 [])) [X4]) 2,
 ON (.store 8 X2 X5) 3] false
def F119 : CF := .mk 6 [p0] 3 (.seq c119_0 (.seq c119_1 .ret)) [.cell p2 8 true] 3
/- daybook/shape.head -/
def c120_0 : CC := .reg [
 O p1 (.box 44 X0) 0,
 O p2 (.alloc 36 [I 0, I 0, I 0, (.str []), (.str []), .nils, I 0, I 0]) 1] false
def c120_1 : CC := .reg [
 O p4 (.faddr 1 X1) 0,
 O p5 (.load 1 false X4) 1,
 O p6 (.call (.c (.fn 116 [])) [X5]) 2,
 O p7 (.call (.c (.fn 158 [])) [X6]) 3,
 O p8 (.bslice 36 8 [I 0, I 0, I 0, (.str []), (.str []), .nils, I 0, I 0] 1 [(0, X7)]) 4,
 O p3 (.mv X8) 5] false
def c120_2 : CC := .reg [
 O p9 (.faddr 2 X1) 0,
 O p10 (.load 1 false X9) 1] false
def c120_3 : CC := .reg [
 O p11 (.mv X3) 0,
 O p12 (.call (.c (.fn 118 [])) [(.c (.str [98, 97, 99, 107]))]) 1,
 O p13 (.bslice 36 8 [I 0, I 0, I 0, (.str []), (.str []), .nils, I 0, I 0] 1 [(0, X12)]) 2,
 O p14 (.append 36 8 X11 X13) 3,
 O p3 (.mv X14) 4] false
def c120_4 : CC := .reg [
 O p15 (.faddr 3 X1) 0,
 O p16 (.load 1 false X15) 1,
 O p17 (.bin .gtr .num X16 (.c (I 0))) 2] false
def c120_5 : CC := .reg [
 O p18 (.mv X3) 0,
 O p20 (.faddr 3 X1) 2,
 .mk (some p21) none (.load 1 false X20) [3] 3,
 O p19 (.call (.c (.fn 118 [])) [(.c (.str [108, 105, 109, 105, 116]))]) 1,
 O p22 (.call (.c (.fn 119 [])) [X21]) 4,
 O p23 (.bslice 36 8 [I 0, I 0, I 0, (.str []), (.str []), .nils, I 0, I 0] 2 [(0, X19), (1, X22)]) 5,
 O p24 (.append 36 8 X18 X23) 6,
 O p3 (.mv X24) 7] true
def c120_6 : CC := .reg [
 O p25 (.faddr 4 X1) 0,
 O p26 (.load 1 false X25) 1] false
def c120_7 : CC := .reg [
 O p27 (.mv X3) 0,
 O p29 (.faddr 5 X1) 2,
 .mk (some p30) none (.load 3 true X29) [3] 3,
 O p28 (.call (.c (.fn 118 [])) [(.c (.str [100, 101, 102, 97, 117, 108, 116]))]) 1,
 O p31 (.call (.c (.fn 158 [])) [X30]) 4,
 O p32 (.bslice 36 8 [I 0, I 0, I 0, (.str []), (.str []), .nils, I 0, I 0] 2 [(0, X28), (1, X31)]) 5,
 O p33 (.append 36 8 X27 X32) 6,
 O p3 (.mv X33) 7] true
def c120_8 : CC := .reg [
 O p34 (.mv X3) 0,
 O p35 (.len 1 X34) 1,
 O p36 (.bin .eql .num X35 (.c (I 1))) 2] false
def c120_9 : CC := .reg [
 O p37 (.mv X3) 0,
 O p38 (.iaddr 8 X37 (.c (I 0))) 1,
 O p39 (.load 8 true X38) 2,
 ON (.store 8 X2 X39) 3] false
def c120_10 : CC := .reg [
 O p40 (.mv X3) 0,
 O p41 (.build [I 0, I 0, I 0, (.str []), (.str []), .nils, I 0, I 0] [(0, 1, (.c (I 3))), (5, 1, X40)]) 1,
 ON (.store 8 X2 X41) 2] false
def F120 : CF := .mk 42 [p0] 6 (.seq c120_0 (.seq c120_1 (.seq (.seq c120_2 (.cond X10 c120_3 .skip)) (.seq (.seq c120_4 (.cond X17 c120_5 .skip)) (.seq (.seq c120_6 (.cond X26 c120_7 .skip)) (.seq (.seq c120_8 (.cond X36 (.seq c120_9 .ret) .skip)) (.seq c120_10 .ret))))))) [.cell p2 8 true] 3
/- daybook/daybookref01.Word -/
def c121_0 : CC := .reg [
 O p2 (.mv (.c (.bool false))) 0] false
def c121_1 : CC := .reg [
 O p5 (.mv X0) 0,
 O p6 (.len 0 X5) 1,
 O p7 (.bin .lss .num X6 (.c (I 1))) 2,
 O p8 (.mv X7) 3,
 OG p9 p8 false (.mv X0) 4,
 OG p10 p8 false (.len 0 X9) 5,
 OG p11 p8 false (.bin .gtr .num X10 (.c (I 64))) 6,
 O p12 (.pick X8 (.c (.bool true)) X11) 7,
 O p13 (.mv X12) 8,
 OG p14 p13 false (.mv X0) 9,
 OG p15 p13 false (.index X14 (.c (I 0))) 10,
 OG p16 p13 false (.call (.c (.fn 159 [])) [X15]) 11,
 OG p17 p13 false (.un .not X16) 12,
 O p18 (.pick X13 (.c (.bool true)) X17) 13] false
def c121_2 : CC := .reg [
 O p2 (.mv (.c (.bool false))) 0] false
def c121_3 : CC := .reg [
 O p3 (.mv (.c (I 0))) 0] false
def c121_4 : CC := .reg [
 O p19 (.mv X3) 0,
 O p20 (.mv X0) 1,
 O p21 (.len 0 X20) 2,
 O p22 (.bin .lss .num X19 X21) 3] false
def c121_5 : CC := .reg [
 O p25 (.mv X0) 0,
 O p26 (.mv X3) 1,
 O p27 (.index X25 X26) 2,
 O p4 (.mv X27) 3] false
def c121_6 : CC := .reg [
 O p28 (.mv X4) 0,
 O p29 (.call (.c (.fn 159 [])) [X28]) 1,
 O p30 (.un .not X29) 2,
 O p31 (.mv X30) 3,
 OG p32 p31 true (.mv X4) 4,
 OG p33 p31 true (.call (.c (.fn 160 [])) [X32]) 5,
 OG p34 p31 true (.un .not X33) 6,
 O p35 (.pick X31 X34 (.c (.bool false))) 7,
 O p36 (.mv X35) 8,
 OG p37 p36 true (.mv X4) 9,
 OG p38 p36 true (.bin .neq .num X37 (.c (.int .u8 46))) 10,
 O p39 (.pick X36 X38 (.c (.bool false))) 11,
 O p40 (.mv X39) 12,
 OG p41 p40 true (.mv X4) 13,
 OG p42 p40 true (.bin .neq .num X41 (.c (.int .u8 95))) 14,
 O p43 (.pick X40 X42 (.c (.bool false))) 15,
 O p44 (.mv X43) 16,
 OG p45 p44 true (.mv X4) 17,
 OG p46 p44 true (.bin .neq .num X45 (.c (.int .u8 45))) 18,
 O p47 (.pick X44 X46 (.c (.bool false))) 19,
 O p48 (.mv X47) 20,
 OG p49 p48 true (.mv X4) 21,
 OG p50 p48 true (.bin .neq .num X49 (.c (.int .u8 47))) 22,
 O p51 (.pick X48 X50 (.c (.bool false))) 23] false
def c121_7 : CC := .reg [
 O p2 (.mv (.c (.bool false))) 0] false
def c121_8 : CC := .reg [
 O p23 (.mv X3) 0,
 O p24 (.bin .add .num X23 (.c (I 1))) 1,
 O p3 (.mv X24) 2] false
def c121_9 : CC := .loop (.seq (.seq c121_4 (.cond X22 .skip (.exit 0))) (.seq (.blk 1 (.seq c121_5 (.seq c121_6 (.cond X51 (.seq c121_7 .ret) .skip)))) c121_8))
def c121_10 : CC := .reg [
 O p2 (.mv (.c (.bool true))) 0] false
def F121 : CF := .mk 52 [p0] 6 (.seq c121_0 (.seq (.seq c121_1 (.cond X18 (.seq c121_2 .ret) .skip)) (.seq (.seq c121_3 (.blk 0 c121_9)) (.seq c121_10 .ret)))) [.t p2] 3
/- daybook/daybookref01.May -/
def c122_0 : CC := .reg [
 O p1 (.box 34 X0) 0,
 O p2 (.mv (.c (.bool false))) 1] false
def c122_1 : CC := .reg [
 O p3 (.faddr 0 X1) 0,
 O p4 (.load 1 false X3) 1] false
def c122_2 : CC := .reg [
 O p6 (.bin .eql .num X4 (.c (I 1))) 0,
 O p5 (.mv X6) 1] false
def c122_3 : CC := .reg [
 O p7 (.bin .eql .num X4 (.c (I 6))) 0,
 O p5 (.mv X7) 1] false
def c122_4 : CC := .reg [
 O p8 (.faddr 2 X1) 0,
 O p9 (.load 1 false X8) 1,
 O p10 (.bin .eql .num X9 (.c (.str []))) 2,
 O p2 (.mv X10) 3] false
def c122_5 : CC := .reg [
 O p12 (.bin .eql .num X4 (.c (I 2))) 0,
 O p11 (.mv X12) 1] false
def c122_6 : CC := .reg [
 O p13 (.faddr 2 X1) 0,
 O p14 (.load 1 false X13) 1,
 O p15 (.bin .eql .num X14 (.c (.str []))) 2,
 O p16 (.mv X15) 3,
 OG p17 p16 true (.faddr 1 X1) 4,
 OG p18 p16 true (.load 1 false X17) 5,
 OG p19 p16 true (.bin .eql .num X18 (.c (I 0))) 6,
 OG p20 p16 true (.mv X19) 7,
 OG p21 p20 false (.faddr 1 X1) 8,
 OG p22 p20 false (.load 1 false X21) 9,
 OG p23 p20 false (.bin .eql .num X22 (.c (I 1))) 10,
 OG p24 p16 true (.pick X20 (.c (.bool true)) X23) 11,
 O p25 (.pick X16 X24 (.c (.bool false))) 12,
 O p2 (.mv X25) 13] false
def c122_7 : CC := .reg [
 O p27 (.bin .eql .num X4 (.c (I 3))) 0,
 O p26 (.mv X27) 1] false
def c122_8 : CC := .reg [
 O p28 (.bin .eql .num X4 (.c (I 4))) 0,
 O p26 (.mv X28) 1] false
def c122_9 : CC := .reg [
 O p29 (.faddr 1 X1) 0,
 O p30 (.load 1 false X29) 1,
 O p31 (.bin .eql .num X30 (.c (I 0))) 2,
 O p32 (.mv X31) 3,
 OG p33 p32 true (.faddr 2 X1) 4,
 OG p34 p32 true (.load 1 false X33) 5,
 OG p35 p32 true (.len 0 X34) 6,
 OG p36 p32 true (.bin .leq .num X35 (.c (I 1000))) 7,
 O p37 (.pick X32 X36 (.c (.bool false))) 8,
 O p2 (.mv X37) 9] false
def c122_10 : CC := .reg [
 O p39 (.bin .eql .num X4 (.c (I 5))) 0,
 O p38 (.mv X39) 1] false
def c122_11 : CC := .reg [
 O p40 (.faddr 2 X1) 0,
 O p41 (.load 1 false X40) 1,
 O p42 (.bin .eql .num X41 (.c (.str []))) 2,
 O p43 (.mv X42) 3,
 OG p44 p43 true (.faddr 1 X1) 4,
 OG p45 p43 true (.load 1 false X44) 5,
 OG p46 p43 true (.bin .geq .num X45 (.c (I 0))) 6,
 O p47 (.pick X43 X46 (.c (.bool false))) 7,
 O p48 (.mv X47) 8,
 OG p49 p48 true (.faddr 1 X1) 9,
 OG p50 p48 true (.load 1 false X49) 10,
 OG p51 p48 true (.bin .lss .num X50 (.c (I 9007199254740992))) 11,
 O p52 (.pick X48 X51 (.c (.bool false))) 12,
 O p2 (.mv X52) 13] false
def c122_12 : CC := .reg [
 O p54 (.bin .eql .num X4 (.c (I 7))) 0,
 O p53 (.mv X54) 1] false
def c122_13 : CC := .reg [
 O p55 (.faddr 1 X1) 0,
 O p56 (.load 1 false X55) 1,
 O p57 (.bin .eql .num X56 (.c (I 0))) 2,
 O p58 (.mv X57) 3,
 OG p59 p58 true (.faddr 2 X1) 4,
 OG p60 p58 true (.load 1 false X59) 5,
 OG p61 p58 true (.call (.c (.fn 121 [])) [X60]) 6,
 O p62 (.pick X58 X61 (.c (.bool false))) 7,
 O p2 (.mv X62) 8] false
def c122_14 : CC := .reg [
 O p2 (.mv (.c (.bool false))) 0] false
def F122 : CF := .mk 63 [p0] 6 (.seq c122_0 (.seq (.seq c122_1 (.blk 0 (.seq (.seq c122_2 (.cond X5 .skip c122_3)) (.cond X5 (.seq c122_4 .ret) (.seq c122_5 (.cond X11 (.seq c122_6 .ret) (.seq (.seq c122_7 (.cond X26 .skip c122_8)) (.cond X26 (.seq c122_9 .ret) (.seq c122_10 (.cond X38 (.seq c122_11 .ret) (.seq c122_12 (.cond X53 (.seq c122_13 .ret) .skip)))))))))))) (.seq c122_14 .ret))) [.t p2] 3
/- daybook/text.size$1 -/
def c145_0 : CC := .reg [
 O p2 (.mv (.c (.bool false))) 0] false
def c145_1 : CC := .reg [
 O p3 (.mv X0) 0,
 O p4 (.bin .gtr .num X3 (.c (.int .u8 32))) 1,
 O p5 (.mv X4) 2,
 OG p6 p5 true (.mv X0) 3,
 OG p7 p5 true (.bin .leq .num X6 (.c (.int .u8 126))) 4,
 O p8 (.pick X5 X7 (.c (.bool false))) 5,
 O p9 (.mv X8) 6,
 OG p10 p9 true (.mv X0) 7,
 OG p11 p9 true (.call (.c (.fn 103 [])) [(.c (.str [40, 41, 91, 93, 123, 125, 34, 59])), X10]) 8,
 OG p12 p9 true (.bin .lss .num X11 (.c (I 0))) 9,
 O p13 (.pick X9 X12 (.c (.bool false))) 10,
 O p2 (.mv X13) 11] false
def F145 : CF := .mk 14 [p0] 4 (.seq c145_0 (.seq c145_1 .ret)) [.t p2] 0
/- daybook/value.number -/
def c149_0 : CC := .reg [
 O p2 (.mv (.c (I 0))) 0,
 O p3 (.mv (.c (.bool false))) 1] false
def c149_1 : CC := .reg [
 O p7 (.mv X0) 0,
 O p8 (.call (.c (.fn 185 [])) [X7, (.c (I 10)), (.c (I 64))]) 1,
 O p6 (.mv X8) 2,
 O p9 (.ext 0 X6) 3,
 O p10 (.ext 1 X6) 4,
 O p4 (.mv X9) 5,
 O p5 (.mv X10) 6] false
def c149_2 : CC := .reg [
 O p11 (.mv X4) 0,
 O p12 (.mv X5) 1,
 O p13 (.bin .eql .iface X12 (.c .nili)) 2,
 O p14 (.mv X13) 3,
 OG p15 p14 true (.mv X4) 4,
 OG p16 p14 true (.call (.c (.fn 186 [])) [X15, (.c (I 10))]) 5,
 OG p17 p14 true (.mv X0) 6,
 OG p18 p14 true (.bin .eql .num X16 X17) 7,
 O p19 (.pick X14 X18 (.c (.bool false))) 8,
 O p2 (.mv X11) 9,
 O p3 (.mv X19) 10] false
def F149 : CF := .mk 20 [p0] 5 (.seq c149_0 (.seq c149_1 (.seq c149_2 .ret))) [.t p2, .t p3] 3
/- daybook/value.pairs -/
def c150_0 : CC := .reg [
 O p1 (.box 9 X0) 0,
 O p2 (.mv (.c .nilf)) 1] false
def c150_1 : CC := .reg [
 O p3 (.mkfn 187 [X1]) 0,
 O p2 (.mv X3) 1] false
def F150 : CF := .mk 4 [p0] 3 (.seq c150_0 (.seq c150_1 .ret)) [.t p2] 0
/- (*strings.Builder).WriteByte -/
def c151_0 : CC := .reg [
 O p4 (.mv (.c .nili)) 0] false
def c151_1 : CC := .reg [
 O p5 (.mv X0) 0,
 O p6 (.call (.c (.fn 161 [])) [X5]) 1] false
def c151_2 : CC := .reg [
 O p7 (.mv X0) 0,
 O p8 (.mv X0) 1,
 O p9 (.nilck X8) 2,
 O p10 (.faddr 1 X9) 3,
 O p11 (.load 1 false X10) 4,
 O p12 (.mv X1) 5,
 O p13 (.bslice 5 1 [(.int .u8 0)] 1 [(0, X12)]) 6,
 O p14 (.append 5 1 X11 X13) 7,
 O p15 (.nilck X7) 8,
 O p16 (.faddr 1 X15) 9,
 ON (.store 1 X16 X14) 10] false
def c151_3 : CC := .reg [
 O p4 (.mv (.c .nili)) 0] false
def F151 : CF := .mk 17 [p0, p1] 5 (.seq c151_0 (.seq c151_1 (.seq c151_2 (.seq c151_3 .ret)))) [.t p4] 0
/- strings.CutSuffix -/
def c152_0 : CC := .reg [
 O p4 (.mv (.c (.str []))) 0,
 O p5 (.mv (.c (.bool false))) 1] false
def c152_1 : CC := .reg [
 O p6 (.mv X0) 0,
 O p7 (.mv X1) 1,
 O p8 (.call (.c (.fn 189 [])) [X6, X7]) 2,
 O p9 (.ext 0 X8) 3,
 O p10 (.ext 1 X8) 4,
 O p4 (.mv X9) 5,
 O p5 (.mv X10) 6] false
def F152 : CF := .mk 11 [p0, p1] 4 (.seq c152_0 (.seq c152_1 .ret)) [.t p4, .t p5] 3
/- daybook/value.quoted -/
def c153_0 : CC := .reg [
 O p2 (.mv (.c (.str []))) 0,
 O p3 (.mv (.c (.bool false))) 1] false
def c153_1 : CC := .reg [
 O p4 (.alloc 148 [.nilp, .nils]) 0] false
def c153_2 : CC := .reg [
 O p5 (.mv (.c (I 0))) 0] false
def c153_3 : CC := .reg [
 O p8 (.mv X5) 0,
 O p9 (.mv X0) 1,
 O p10 (.len 0 X9) 2,
 O p11 (.bin .lss .num X8 X10) 3] false
def c153_4 : CC := .reg [
 O p12 (.mv X0) 0,
 O p13 (.mv X5) 1,
 O p14 (.index X12 X13) 2,
 O p15 (.call (.c (.fn 190 [])) [X14]) 3] false
def c153_5 : CC := .reg [
 O p16 (.mv X0) 0,
 O p17 (.mv X5) 1,
 O p18 (.index X16 X17) 2,
 O p19 (.call (.c (.fn 151 [])) [X4, X18]) 3] false
def c153_6 : CC := .reg [
 O p20 (.mv X5) 0,
 O p21 (.bin .add .num X20 (.c (I 1))) 1,
 O p5 (.mv X21) 2] false
def c153_7 : CC := .reg [
 O p23 (.mv X0) 0,
 O p24 (.mv X5) 1,
 O p25 (.bin .add .num X24 (.c (I 1))) 2,
 O p26 (.slices X23 (some X25) none) 3,
 O p27 (.call (.c (.fn 188 [])) [X26]) 4,
 O p22 (.mv X27) 5,
 O p28 (.ext 0 X22) 6,
 O p29 (.ext 1 X22) 7,
 O p6 (.mv X28) 8,
 O p7 (.mv X29) 9] false
def c153_8 : CC := .reg [
 O p30 (.mv X0) 0,
 O p31 (.mv X5) 1,
 O p32 (.index X30 X31) 2,
 O p33 (.bin .neq .num X32 (.c (.int .u8 92))) 3,
 O p34 (.mv X33) 4,
 OG p35 p34 false (.mv X7) 5,
 OG p36 p34 false (.un .not X35) 6,
 O p37 (.pick X34 (.c (.bool true)) X36) 7,
 O p38 (.mv X37) 8,
 OG p39 p38 false (.mv X6) 9,
 OG p40 p38 false (.call (.c (.fn 190 [])) [X39]) 10,
 O p41 (.pick X38 (.c (.bool true)) X40) 11] false
def c153_9 : CC := .reg [
 O p2 (.mv (.c (.str []))) 0,
 O p3 (.mv (.c (.bool false))) 1] false
def c153_10 : CC := .reg [
 O p42 (.mv X6) 0,
 O p43 (.call (.c (.fn 151 [])) [X4, X42]) 1] false
def c153_11 : CC := .reg [
 O p44 (.mv X5) 0,
 O p45 (.bin .add .num X44 (.c (I 3))) 1,
 O p5 (.mv X45) 2] false
def c153_12 : CC := .loop (.seq (.seq c153_3 (.cond X11 .skip (.exit 0))) (.blk 1 (.seq (.seq c153_4 (.cond X15 (.seq c153_5 (.seq c153_6 (.exit 1))) .skip)) (.seq c153_7 (.seq (.seq c153_8 (.cond X41 (.seq c153_9 .ret) .skip)) (.seq c153_10 c153_11))))))
def c153_13 : CC := .reg [
 O p46 (.call (.c (.fn 86 [])) [X4]) 0,
 O p2 (.mv X46) 1,
 O p3 (.mv (.c (.bool true))) 2] false
def F153 : CF := .mk 47 [p0] 6 (.seq c153_0 (.scope (.seq c153_1 (.seq c153_2 (.seq .skip (.seq (.blk 0 c153_12) (.seq c153_13 .ret))))))) [.t p2, .t p3] 3
/- daybook/value.word -/
def c154_0 : CC := .reg [
 O p2 (.mv (.c (.bool false))) 0] false
def c154_1 : CC := .reg [
 O p5 (.mv X0) 0,
 O p6 (.s2b X5) 1,
 O p7 (.len 1 X6) 2,
 O p8 (.mv (.c (I 0))) 3] false
def c154_2 : CC := .reg [
 O p9 (.bin .lss .num X8 X7) 0] false
def c154_3 : CC := .reg [
 O p10 (.mv X8) 0,
 O p11 (.iaddr 1 X6 X8) 1,
 O p12 (.load 1 false X11) 2,
 O p3 (.mv X10) 3,
 O p4 (.mv X12) 4] false
def c154_4 : CC := .reg [
 O p14 (.mv X4) 0,
 O p15 (.bin .geq .num X14 (.c (.int .u8 97))) 1,
 O p16 (.mv X15) 2,
 OG p17 p16 true (.mv X4) 3,
 OG p18 p16 true (.bin .leq .num X17 (.c (.int .u8 122))) 4,
 O p19 (.pick X16 X18 (.c (.bool false))) 5,
 O p13 (.mv X19) 6] false
def c154_5 : CC := .reg [
 O p21 (.mv X3) 0,
 O p22 (.bin .gtr .num X21 (.c (I 0))) 1,
 O p23 (.mv X22) 2,
 OG p24 p23 true (.mv X4) 3,
 OG p25 p23 true (.bin .geq .num X24 (.c (.int .u8 48))) 4,
 OG p26 p23 true (.mv X25) 5,
 OG p27 p26 true (.mv X4) 6,
 OG p28 p26 true (.bin .leq .num X27 (.c (.int .u8 57))) 7,
 OG p29 p23 true (.pick X26 X28 (.c (.bool false))) 8,
 OG p30 p23 true (.mv X29) 9,
 OG p31 p30 false (.mv X4) 10,
 OG p32 p30 false (.bin .eql .num X31 (.c (.int .u8 46))) 11,
 OG p33 p23 true (.pick X30 (.c (.bool true)) X32) 12,
 OG p34 p23 true (.mv X33) 13,
 OG p35 p34 false (.mv X4) 14,
 OG p36 p34 false (.bin .eql .num X35 (.c (.int .u8 95))) 15,
 OG p37 p23 true (.pick X34 (.c (.bool true)) X36) 16,
 OG p38 p23 true (.mv X37) 17,
 OG p39 p38 false (.mv X4) 18,
 OG p40 p38 false (.bin .eql .num X39 (.c (.int .u8 45))) 19,
 OG p41 p23 true (.pick X38 (.c (.bool true)) X40) 20,
 OG p42 p23 true (.mv X41) 21,
 OG p43 p42 false (.mv X4) 22,
 OG p44 p42 false (.bin .eql .num X43 (.c (.int .u8 47))) 23,
 OG p45 p23 true (.pick X42 (.c (.bool true)) X44) 24,
 O p46 (.pick X23 X45 (.c (.bool false))) 25,
 O p20 (.mv X46) 26] false
def c154_6 : CC := .reg [
 O p2 (.mv (.c (.bool false))) 0] false
def c154_7 : CC := .reg [
 O p47 (.bin .add .num X8 (.c (I 1))) 0,
 O p8 (.mv X47) 1] false
def c154_8 : CC := .loop (.seq c154_2 (.seq (.cond X9 .skip (.exit 0)) (.seq (.blk 1 (.seq c154_3 (.blk 2 (.seq c154_4 (.cond X13 .skip (.seq c154_5 (.cond X20 .skip (.seq c154_6 .ret)))))))) c154_7)))
def c154_9 : CC := .reg [
 O p48 (.mv X0) 0,
 O p49 (.len 0 X48) 1,
 O p50 (.bin .geq .num X49 (.c (I 1))) 2,
 O p51 (.mv X50) 3,
 OG p52 p51 true (.mv X0) 4,
 OG p53 p51 true (.len 0 X52) 5,
 OG p54 p51 true (.bin .leq .num X53 (.c (I 64))) 6,
 O p55 (.pick X51 X54 (.c (.bool false))) 7,
 O p2 (.mv X55) 8] false
def F154 : CF := .mk 56 [p0] 6 (.seq c154_0 (.seq (.seq c154_1 (.blk 0 c154_8)) (.seq c154_9 .ret))) [.t p2] 1
/- daybook/shape.options -/
def c157_0 : CC := .reg [
 O p4 (.mv (.c (.bool false))) 0] false
def c157_1 : CC := .reg [
 O p7 (.mv X1) 0,
 O p8 (.len 1 X7) 1,
 O p9 (.bin .gtr .num X8 (.c (I 0))) 2,
 O p10 (.mv X9) 3,
 OG p11 p10 true (.mv X1) 4,
 OG p12 p10 true (.iaddr 8 X11 (.c (I 0))) 5,
 OG p13 p10 true (.load 8 true X12) 6,
 OG p14 p10 true (.call (.c (.fn 112 [])) [X13, (.c (.str [98, 97, 99, 107]))]) 7,
 O p15 (.pick X10 X14 (.c (.bool false))) 8] false
def c157_2 : CC := .reg [
 O p16 (.mv X0) 0,
 O p17 (.nilck X16) 1,
 O p18 (.faddr 2 X17) 2,
 ON (.store 1 X18 (.c (.bool true))) 3] false
def c157_3 : CC := .reg [
 O p19 (.mv X1) 0,
 O p20 (.slice 8 X19 (some (.c (I 1))) none none) 1,
 O p1 (.mv X20) 2] false
def c157_4 : CC := .reg [
 O p21 (.mv X1) 0,
 O p22 (.len 1 X21) 1,
 O p23 (.bin .gtr .num X22 (.c (I 1))) 2,
 O p24 (.mv X23) 3,
 OG p25 p24 true (.mv X1) 4,
 OG p26 p24 true (.iaddr 8 X25 (.c (I 0))) 5,
 OG p27 p24 true (.load 8 true X26) 6,
 OG p28 p24 true (.call (.c (.fn 112 [])) [X27, (.c (.str [108, 105, 109, 105, 116]))]) 7,
 O p29 (.pick X24 X28 (.c (.bool false))) 8] false
def c157_5 : CC := .reg [
 O p31 (.mv X1) 0,
 O p32 (.iaddr 8 X31 (.c (I 1))) 1,
 O p33 (.load 8 true X32) 2,
 O p34 (.call (.c (.fn 114 [])) [X33]) 3,
 O p30 (.mv X34) 4,
 O p35 (.ext 0 X30) 5,
 O p36 (.ext 1 X30) 6,
 O p5 (.mv X35) 7,
 O p6 (.mv X36) 8] false
def c157_6 : CC := .reg [
 O p37 (.mv X6) 0,
 O p38 (.un .not X37) 1] false
def c157_7 : CC := .reg [
 O p4 (.mv (.c (.bool false))) 0] false
def c157_8 : CC := .reg [
 O p39 (.mv X0) 0,
 O p40 (.mv X5) 1,
 O p41 (.nilck X39) 2,
 O p42 (.faddr 3 X41) 3,
 ON (.store 1 X42 X40) 4] false
def c157_9 : CC := .reg [
 O p43 (.mv X1) 0,
 O p44 (.slice 8 X43 (some (.c (I 2))) none none) 1,
 O p1 (.mv X44) 2] false
def c157_10 : CC := .reg [
 O p45 (.mv X1) 0,
 O p46 (.len 1 X45) 1,
 O p47 (.bin .gtr .num X46 (.c (I 1))) 2,
 O p48 (.mv X47) 3,
 OG p49 p48 true (.mv X1) 4,
 OG p50 p48 true (.iaddr 8 X49 (.c (I 0))) 5,
 OG p51 p48 true (.load 8 true X50) 6,
 OG p52 p48 true (.call (.c (.fn 112 [])) [X51, (.c (.str [100, 101, 102, 97, 117, 108, 116]))]) 7,
 O p53 (.pick X48 X52 (.c (.bool false))) 8,
 O p54 (.mv X53) 9,
 OG p55 p54 true (.mv X1) 10,
 OG p56 p54 true (.iaddr 8 X55 (.c (I 1))) 11,
 OG p57 p54 true (.faddr 0 X56) 12,
 OG p58 p54 true (.load 1 false X57) 13,
 OG p59 p54 true (.bin .eql .num X58 (.c (I 1))) 14,
 O p60 (.pick X54 X59 (.c (.bool false))) 15] false
def c157_11 : CC := .reg [
 O p61 (.mv X0) 0,
 O p62 (.mv X0) 1,
 O p63 (.mv X1) 2,
 O p64 (.iaddr 8 X63 (.c (I 1))) 3,
 O p65 (.faddr 1 X64) 4,
 O p66 (.load 3 true X65) 5,
 O p67 (.nilck X61) 6,
 O p68 (.faddr 4 X67) 7,
 ON (.store 1 X68 (.c (.bool true))) 8,
 O p69 (.nilck X62) 9,
 O p70 (.faddr 5 X69) 10,
 ON (.store 3 X70 X66) 11] false
def c157_12 : CC := .reg [
 O p71 (.mv X1) 0,
 O p72 (.slice 8 X71 (some (.c (I 2))) none none) 1,
 O p1 (.mv X72) 2] false
def c157_13 : CC := .reg [
 O p73 (.mv X1) 0,
 O p74 (.len 1 X73) 1,
 O p75 (.bin .eql .num X74 (.c (I 0))) 2,
 O p4 (.mv X75) 3] false
def F157 : CF := .mk 76 [p0, p1] 7 (.seq c157_0 (.seq (.seq c157_1 (.cond X15 (.seq c157_2 c157_3) .skip)) (.seq (.seq c157_4 (.cond X29 (.seq c157_5 (.seq (.seq c157_6 (.cond X38 (.seq c157_7 .ret) .skip)) (.seq c157_8 c157_9))) .skip)) (.seq (.seq c157_10 (.cond X60 (.seq c157_11 c157_12) .skip)) (.seq c157_13 .ret))))) [.t p4] 2
/- daybook/shape.said -/
def c158_0 : CC := .reg [
 O p1 (.box 34 X0) 0,
 O p2 (.alloc 36 [I 0, I 0, I 0, (.str []), (.str []), .nils, I 0, I 0]) 1] false
def c158_1 : CC := .reg [
 O p3 (.load 3 true X1) 0,
 O p4 (.build [I 0, I 0, I 0, (.str []), (.str []), .nils, I 0, I 0] [(0, 1, (.c (I 1))), (1, 3, X3)]) 1,
 ON (.store 8 X2 X4) 2] false
def F158 : CF := .mk 5 [p0] 3 (.seq c158_0 (.seq c158_1 .ret)) [.cell p2 8 true] 3
/- daybook/daybookref01.lower -/
def c159_0 : CC := .reg [
 O p2 (.mv (.c (.bool false))) 0] false
def c159_1 : CC := .reg [
 O p3 (.mv X0) 0,
 O p4 (.bin .geq .num X3 (.c (.int .u8 97))) 1,
 O p5 (.mv X4) 2,
 OG p6 p5 true (.mv X0) 3,
 OG p7 p5 true (.bin .leq .num X6 (.c (.int .u8 122))) 4,
 O p8 (.pick X5 X7 (.c (.bool false))) 5,
 O p2 (.mv X8) 6] false
def F159 : CF := .mk 9 [p0] 4 (.seq c159_0 (.seq c159_1 .ret)) [.t p2] 3
/- daybook/daybookref01.digit -/
def c160_0 : CC := .reg [
 O p2 (.mv (.c (.bool false))) 0] false
def c160_1 : CC := .reg [
 O p3 (.mv X0) 0,
 O p4 (.bin .geq .num X3 (.c (.int .u8 48))) 1,
 O p5 (.mv X4) 2,
 OG p6 p5 true (.mv X0) 3,
 OG p7 p5 true (.bin .leq .num X6 (.c (.int .u8 57))) 4,
 O p8 (.pick X5 X7 (.c (.bool false))) 5,
 O p2 (.mv X8) 6] false
def F160 : CF := .mk 9 [p0] 4 (.seq c160_0 (.seq c160_1 .ret)) [.t p2] 3
/- daybook/value.pairs$1 -/
def c187_0 : CC := .reg [
 O p5 (.load 1 false X1) 0,
 O p6 (.bin .neq .num X5 (.c (.str []))) 1] false
def c187_1 : CC := .reg [
 O p10 (.load 1 false X1) 0,
 O p11 (.call (.c (.fn 188 [])) [X10]) 1,
 O p9 (.mv X11) 2,
 O p12 (.ext 0 X9) 3,
 O p13 (.ext 1 X9) 4,
 O p3 (.mv X12) 5,
 O p4 (.mv X13) 6] false
def c187_2 : CC := .reg [
 O p14 (.mv X0) 0,
 O p15 (.mv X3) 1,
 O p16 (.mv X4) 2,
 O p17 (.call X14 [X15, X16]) 3,
 O p18 (.un .not X17) 4,
 O p19 (.mv X18) 5,
 OG p20 p19 false (.mv X4) 6,
 OG p21 p19 false (.un .not X20) 7,
 O p22 (.pick X19 (.c (.bool true)) X21) 8] false
def c187_3 : CC := .reg [
 O p7 (.load 1 false X1) 0,
 O p8 (.slices X7 (some (.c (I 2))) none) 1,
 ON (.store 1 X1 X8) 2] false
def c187_4 : CC := .loop (.seq (.seq c187_0 (.cond X6 .skip (.exit 0))) (.seq (.blk 1 (.seq c187_1 (.seq c187_2 (.cond X22 .ret .skip)))) c187_3))
def F187 : CF := .mk 23 [p0, p1] 5 (.blk 0 c187_4) [] 0
/- daybook/value.pair -/
def c188_0 : CC := .reg [
 O p2 (.mv (.c (.int .u8 0))) 0,
 O p3 (.mv (.c (.bool false))) 1] false
def c188_1 : CC := .reg [
 O p6 (.mv X0) 0,
 O p7 (.len 0 X6) 1,
 O p8 (.bin .lss .num X7 (.c (I 2))) 2] false
def c188_2 : CC := .reg [
 O p2 (.mv (.c (.int .u8 0))) 0,
 O p3 (.mv (.c (.bool false))) 1] false
def c188_3 : CC := .reg [
 O p9 (.mv X0) 0,
 O p10 (.index X9 (.c (I 0))) 1,
 O p12 (.mv X0) 3,
 O p13 (.index X12 (.c (I 1))) 4,
 O p11 (.call (.c (.fn 103 [])) [(.c (.str [48, 49, 50, 51, 52, 53, 54, 55, 56, 57, 97, 98, 99, 100, 101, 102])), X10]) 2,
 O p14 (.call (.c (.fn 103 [])) [(.c (.str [48, 49, 50, 51, 52, 53, 54, 55, 56, 57, 97, 98, 99, 100, 101, 102])), X13]) 5,
 O p4 (.mv X11) 6,
 O p5 (.mv X14) 7] true
def c188_4 : CC := .reg [
 O p15 (.mv X4) 0,
 O p16 (.bin .shl .num X15 (.c (.int .u64 4))) 1,
 O p17 (.mv X5) 2,
 O p18 (.bin .or .num X16 X17) 3,
 O p19 (.toint .u8 X18) 4,
 O p20 (.mv X4) 5,
 O p21 (.bin .geq .num X20 (.c (I 0))) 6,
 O p22 (.mv X21) 7,
 OG p23 p22 true (.mv X5) 8,
 OG p24 p22 true (.bin .geq .num X23 (.c (I 0))) 9,
 O p25 (.pick X22 X24 (.c (.bool false))) 10,
 O p2 (.mv X19) 11,
 O p3 (.mv X25) 12] false
def F188 : CF := .mk 26 [p0] 5 (.seq c188_0 (.seq (.seq c188_1 (.cond X8 (.seq c188_2 .ret) .skip)) (.seq c188_3 (.seq c188_4 .ret)))) [.t p2, .t p3] 3
/- internal/stringslite.CutSuffix -/
def c189_0 : CC := .reg [
 O p4 (.mv (.c (.str []))) 0,
 O p5 (.mv (.c (.bool false))) 1] false
def c189_1 : CC := .reg [
 O p6 (.mv X0) 0,
 O p7 (.mv X1) 1,
 O p8 (.call (.c (.fn 210 [])) [X6, X7]) 2,
 O p9 (.un .not X8) 3] false
def c189_2 : CC := .reg [
 O p10 (.mv X0) 0,
 O p4 (.mv X10) 1,
 O p5 (.mv (.c (.bool false))) 2] false
def c189_3 : CC := .reg [
 O p11 (.mv X0) 0,
 O p12 (.mv X0) 1,
 O p13 (.len 0 X12) 2,
 O p14 (.mv X1) 3,
 O p15 (.len 0 X14) 4,
 O p16 (.bin .sub .num X13 X15) 5,
 O p17 (.slices X11 none (some X16)) 6,
 O p4 (.mv X17) 7,
 O p5 (.mv (.c (.bool true))) 8] false
def F189 : CF := .mk 18 [p0, p1] 5 (.seq c189_0 (.seq (.seq c189_1 (.cond X9 (.seq c189_2 .ret) .skip)) (.seq c189_3 .ret))) [.t p4, .t p5] 3
/- daybook/value.plain -/
def c190_0 : CC := .reg [
 O p2 (.mv (.c (.bool false))) 0] false
def c190_1 : CC := .reg [
 O p3 (.mv X0) 0,
 O p4 (.bin .geq .num X3 (.c (.int .u8 32))) 1,
 O p5 (.mv X4) 2,
 OG p6 p5 true (.mv X0) 3,
 OG p7 p5 true (.bin .leq .num X6 (.c (.int .u8 126))) 4,
 O p8 (.pick X5 X7 (.c (.bool false))) 5,
 O p9 (.mv X8) 6,
 OG p10 p9 true (.mv X0) 7,
 OG p11 p9 true (.bin .neq .num X10 (.c (.int .u8 34))) 8,
 O p12 (.pick X9 X11 (.c (.bool false))) 9,
 O p13 (.mv X12) 10,
 OG p14 p13 true (.mv X0) 11,
 OG p15 p13 true (.bin .neq .num X14 (.c (.int .u8 92))) 12,
 O p16 (.pick X13 X15 (.c (.bool false))) 13,
 O p2 (.mv X16) 14] false
def F190 : CF := .mk 17 [p0] 5 (.seq c190_0 (.seq c190_1 .ret)) [.t p2] 3
/- internal/stringslite.HasSuffix -/
def c210_0 : CC := .reg [
 O p4 (.mv (.c (.bool false))) 0] false
def c210_1 : CC := .reg [
 O p5 (.mv X0) 0,
 O p6 (.len 0 X5) 1,
 O p7 (.mv X1) 2,
 O p8 (.len 0 X7) 3,
 O p9 (.bin .geq .num X6 X8) 4,
 O p10 (.mv X9) 5,
 OG p11 p10 true (.mv X0) 6,
 OG p12 p10 true (.mv X0) 7,
 OG p13 p10 true (.len 0 X12) 8,
 OG p14 p10 true (.mv X1) 9,
 OG p15 p10 true (.len 0 X14) 10,
 OG p16 p10 true (.bin .sub .num X13 X15) 11,
 OG p17 p10 true (.slices X11 (some X16) none) 12,
 OG p18 p10 true (.mv X1) 13,
 OG p19 p10 true (.bin .eql .num X17 X18) 14,
 O p20 (.pick X10 X19 (.c (.bool false))) 15,
 O p4 (.mv X20) 16] false
def F210 : CF := .mk 21 [p0, p1] 5 (.seq c210_0 (.seq c210_1 .ret)) [.t p4] 3
end Go.EV
