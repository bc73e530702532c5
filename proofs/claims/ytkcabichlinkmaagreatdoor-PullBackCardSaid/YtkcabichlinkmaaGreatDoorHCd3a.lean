/- Compiled functions, by program. -/
import Derived.Test.YtkcabichlinkmaaGreatDoorHM7
namespace Go.EV
/- daybook/daybooklaw20.PullBack -/
def c10_0 : CC := .reg [
 O p2 (.mv (.c (.bool false))) 0] false
def c10_1 : CC := .reg [
 O p8 (.call (.c (.fn 24 [])) []) 0,
 O p3 (.mv X8) 1] false
def c10_2 : CC := .reg [
 O p9 (.mv X0) 0,
 O p10 (.call (.c (.fn 36 [])) [X9, (.c (I 0))]) 1,
 O p11 (.bin .gtr .num X10 (.c (I 3000))) 2,
 O p12 (.mv X11) 3,
 OG p13 p12 false (.mv X3) 4,
 OG p14 p12 false (.un .not X13) 5,
 O p15 (.pick X12 (.c (.bool true)) X14) 6] false
def c10_3 : CC := .reg [
 O p16 (.mv X3) 0,
 O p2 (.mv X16) 1] false
def c10_4 : CC := .reg [
 O p18 (.mv X0) 0,
 O p19 (.call (.c (.fn 33 [])) [X18]) 1,
 O p17 (.mv X19) 2,
 O p20 (.ext 0 X17) 3,
 O p21 (.ext 1 X17) 4,
 O p4 (.alloc 36 [I 0, I 0, I 0, (.str []), (.str []), .nils, I 0, I 0]) 5,
 ON (.store 8 X4 X20) 6,
 O p5 (.mv X21) 7] false
def c10_5 : CC := .reg [
 O p23 (.load 8 true X4) 0,
 O p24 (.call (.c (.fn 34 [])) [X23]) 1,
 O p22 (.mv X24) 2,
 O p25 (.ext 0 X22) 3,
 O p26 (.ext 1 X22) 4,
 O p6 (.mv X25) 5,
 O p7 (.mv X26) 6] false
def c10_6 : CC := .reg [
 O p27 (.mv X3) 0,
 O p28 (.mv X27) 1,
 OG p29 p28 true (.mv X5) 2,
 OG p30 p28 true (.bin .neq .num X29 (.c (I 0))) 3,
 OG p31 p28 true (.mv X30) 4,
 OG p32 p31 false (.mv X7) 5,
 OG p33 p31 false (.bin .eql .num X32 (.c (I 0))) 6,
 OG p34 p31 false (.mv X33) 7,
 OG p35 p34 true (.mv X0) 8,
 OG p36 p34 true (.mv X6) 9,
 OG p37 p34 true (.call (.c (.fn 37 [])) [X35, X36]) 10,
 OG p38 p31 false (.pick X34 X37 (.c (.bool false))) 11,
 OG p39 p28 true (.pick X31 (.c (.bool true)) X38) 12,
 O p40 (.pick X28 X39 (.c (.bool false))) 13,
 O p2 (.mv X40) 14] false
def F10 : CF := .mk 41 [p0] 6 (.seq c10_0 (.seq c10_1 (.seq (.seq c10_2 (.cond X15 (.seq c10_3 .ret) .skip)) (.seq c10_4 (.seq c10_5 (.seq c10_6 .ret)))))) [.t p2] 1
/- daybook/shape.Parse -/
def c11_0 : CC := .reg [
 O p2 (.mv (.c .nils)) 0,
 O p3 (.mv (.c (I 0))) 1] false
def c11_1 : CC := .reg [
 O p9 (.mv X0) 0,
 O p10 (.call (.c (.fn 38 [])) [X9]) 1,
 O p8 (.mv X10) 2,
 O p11 (.ext 0 X8) 3,
 O p12 (.ext 1 X8) 4,
 O p13 (.ext 2 X8) 5,
 O p14 (.ext 3 X8) 6,
 O p4 (.mv X11) 7,
 O p5 (.mv X12) 8,
 O p6 (.mv X13) 9,
 O p7 (.mv X14) 10] false
def c11_2 : CC := .reg [
 O p15 (.mv X7) 0,
 O p16 (.bin .neq .num X15 (.c (I 0))) 1] false
def c11_3 : CC := .reg [
 O p17 (.mv X7) 0,
 O p2 (.mv (.c .nils)) 1,
 O p3 (.mv X17) 2] false
def c11_4 : CC := .reg [
 O p18 (.mv X4) 0,
 O p19 (.len 1 X18) 1,
 O p20 (.bin .neq .num X19 (.c (I 1))) 2] false
def c11_5 : CC := .reg [
 O p2 (.mv (.c .nils)) 0,
 O p3 (.mv (.c (I 190))) 1] false
def c11_6 : CC := .reg [
 O p21 (.mv X4) 0,
 O p22 (.iaddr 8 X21 (.c (I 0))) 1,
 O p23 (.load 8 true X22) 2,
 O p24 (.call (.c (.fn 15 [])) [X23]) 3,
 O p25 (.ext 0 X24) 4,
 O p26 (.ext 1 X24) 5,
 O p2 (.mv X25) 6,
 O p3 (.mv X26) 7] false
def F11 : CF := .mk 27 [p0] 5 (.seq c11_0 (.seq c11_1 (.seq (.seq c11_2 (.cond X16 (.seq c11_3 .ret) .skip)) (.seq (.seq c11_4 (.cond X20 (.seq c11_5 .ret) .skip)) (.seq c11_6 .ret))))) [.t p2, .t p3] 3
/- daybook/shape.Read -/
def c15_0 : CC := .reg [
 O p1 (.box 36 X0) 0,
 O p2 (.mv (.c .nils)) 1,
 O p3 (.mv (.c (I 0))) 2] false
def c15_1 : CC := .reg [
 O p7 (.load 8 true X1) 0,
 O p8 (.call (.c (.fn 41 [])) [X7, (.c (I 1))]) 1,
 O p6 (.mv X8) 2,
 O p9 (.ext 0 X6) 3,
 O p10 (.ext 1 X6) 4,
 O p4 (.mv X9) 5,
 O p5 (.mv X10) 6] false
def c15_2 : CC := .reg [
 O p11 (.mv X5) 0,
 O p12 (.un .not X11) 1,
 O p13 (.mv X12) 2,
 OG p14 p13 false (.mv X4) 3,
 OG p15 p13 false (.call (.c (.fn 42 [])) [X14]) 4,
 OG p16 p13 false (.un .not X15) 5,
 O p17 (.pick X13 (.c (.bool true)) X16) 6] false
def c15_3 : CC := .reg [
 O p2 (.mv (.c .nils)) 0,
 O p3 (.mv (.c (I 190))) 1] false
def c15_4 : CC := .reg [
 .mk (some p18) none (.load 8 true X1) [2] 0,
 O p19 (.mv X4) 1,
 O p20 (.call (.c (.fn 44 [])) [X19]) 2,
 O p21 (.call (.c (.fn 43 [])) [X18, X20]) 3,
 O p22 (.un .not X21) 4] true
def c15_5 : CC := .reg [
 O p2 (.mv (.c .nils)) 0,
 O p3 (.mv (.c (I 190))) 1] false
def c15_6 : CC := .reg [
 O p23 (.mv X4) 0,
 O p2 (.mv X23) 1,
 O p3 (.mv (.c (I 0))) 2] false
def F15 : CF := .mk 24 [p0] 5 (.seq c15_0 (.seq c15_1 (.seq (.seq c15_2 (.cond X17 (.seq c15_3 .ret) .skip)) (.seq (.seq c15_4 (.cond X22 (.seq c15_5 .ret) .skip)) (.seq c15_6 .ret))))) [.t p2, .t p3] 3
/- daybook/shape.Check -/
def c19_0 : CC := .reg [
 O p2 (.mv (.c (I 0))) 0] false
def c19_1 : CC := .reg [
 O p3 (.mv X0) 0,
 O p4 (.call (.c (.fn 42 [])) [X3]) 1,
 O p5 (.un .not X4) 2] false
def c19_2 : CC := .reg [
 O p2 (.mv (.c (I 190))) 0] false
def c19_3 : CC := .reg [
 O p2 (.mv (.c (I 0))) 0] false
def F19 : CF := .mk 6 [p0] 3 (.seq c19_0 (.seq (.seq c19_1 (.cond X5 (.seq c19_2 .ret) .skip)) (.seq c19_3 .ret))) [.t p2] 3
/- daybook/daybooklaw20.alive -/
def c24_0 : CC := .reg [
 O p0 (.mv (.c (.bool false))) 0] false
def c24_1 : CC := .reg [
 O p1 (.call (.c (.fn 35 [])) [(.c (I 20)), (.c (.str [91, 58, 97, 47, 110, 32, 123, 58, 97, 47, 107, 105, 100, 32, 91, 58, 97, 47, 110, 93, 125, 93]))]) 0,
 O p2 (.bin .eql .num X1 (.c (.str [123, 58, 97, 47, 107, 105, 100, 32, 91, 40, 64, 50, 49, 32, 123, 58, 97, 47, 110, 32, 91, 50, 93, 125, 41, 93, 32, 58, 97, 47, 110, 32, 91, 49, 93, 125]))) 1,
 O p3 (.mv X2) 2,
 OG p4 p3 true (.call (.c (.fn 35 [])) [(.c (I 20)), (.c (.str [91, 58, 97, 47, 110, 32, 123, 58, 97, 47, 107, 105, 100, 32, 46, 46, 46, 125, 93]))]) 3,
 OG p5 p3 true (.bin .eql .num X4 (.c (.str [123, 58, 97, 47, 107, 105, 100, 32, 91, 40, 64, 50, 49, 32, 123, 58, 97, 47, 107, 105, 100, 32, 91, 64, 50, 48, 93, 32, 58, 97, 47, 110, 32, 91, 50, 93, 125, 41, 93, 32, 58, 97, 47, 110, 32, 91, 49, 93, 125]))) 4,
 O p6 (.pick X3 X5 (.c (.bool false))) 5,
 O p0 (.mv X6) 6] false
def F24 : CF := .mk 7 [] 3 (.seq c24_0 (.seq c24_1 .ret)) [.t p0] 3
/- daybook/daybookref07.Of -/
def c26_0 : CC := .reg [
 O p2 (.mv (.c .nils)) 0,
 O p3 (.mv (.c (I 0))) 1] false
def c26_1 : CC := .reg [
 O p11 (.mv X0) 0,
 O p12 (.call (.c (.fn 52 [])) [X11]) 1,
 O p4 (.mv X12) 2] false
def c26_2 : CC := .reg [
 O p13 (.mv X4) 0,
 O p14 (.un .not X13) 1] false
def c26_3 : CC := .reg [
 O p2 (.mv (.c .nils)) 0,
 O p3 (.mv (.c (I 60))) 1] false
def c26_4 : CC := .reg [
 O p15 (.call (.c (.fn 31 [])) []) 0,
 O p5 (.mv X15) 1] false
def c26_5 : CC := .reg [
 O p6 (.mv (.c (I 0))) 0] false
def c26_6 : CC := .reg [
 O p16 (.mv X6) 0,
 O p17 (.mv X0) 1,
 O p18 (.len 1 X17) 2,
 O p19 (.bin .lss .num X16 X18) 3] false
def c26_7 : CC := .reg [
 O p22 (.mv X6) 0,
 O p23 (.bin .gtr .num X22 (.c (I 0))) 1,
 O p24 (.mv X23) 2,
 OG p25 p24 true (.mv X0) 3,
 OG p26 p24 true (.mv X6) 4,
 OG p27 p24 true (.iaddr 6 X25 X26) 5,
 OG p28 p24 true (.faddr 0 X27) 6,
 OG p29 p24 true (.load 1 false X28) 7,
 OG p30 p24 true (.mv X0) 8,
 OG p31 p24 true (.mv X6) 9,
 OG p32 p24 true (.bin .sub .num X31 (.c (I 1))) 10,
 OG p33 p24 true (.iaddr 6 X30 X32) 11,
 OG p34 p24 true (.faddr 0 X33) 12,
 OG p35 p24 true (.load 1 false X34) 13,
 OG p36 p24 true (.bin .eql .num X29 X35) 14,
 O p37 (.pick X24 X36 (.c (.bool false))) 15] true
def c26_8 : CC := .reg [
 O p39 (.mv X0) 0,
 O p40 (.mv X0) 1,
 O p41 (.mv X6) 2,
 O p42 (.iaddr 6 X40 X41) 3,
 O p43 (.faddr 0 X42) 4,
 O p44 (.load 1 false X43) 5,
 O p45 (.call (.c (.fn 53 [])) [X39, X44]) 6,
 O p38 (.mv X45) 7,
 O p46 (.ext 0 X38) 8,
 O p47 (.ext 1 X38) 9,
 O p7 (.alloc 66 [I 0, (.str []), I 0, (.bool false), I 0, (.bool false), (.bool false)]) 10,
 ON (.store 7 X7 X46) 11,
 O p8 (.mv X47) 12] false
def c26_9 : CC := .reg [
 O p48 (.mv X8) 0] false
def c26_10 : CC := .reg [
 O p49 (.mv X5) 0,
 O p50 (.load 7 true X7) 1,
 O p51 (.bslice 66 7 [I 0, (.str []), I 0, (.bool false), I 0, (.bool false), (.bool false)] 1 [(0, X50)]) 2,
 O p52 (.append 66 7 X49 X51) 3,
 O p5 (.mv X52) 4] false
def c26_11 : CC := .reg [
 O p20 (.mv X6) 0,
 O p21 (.bin .add .num X20 (.c (I 1))) 1,
 O p6 (.mv X21) 2] false
def c26_12 : CC := .loop (.seq (.seq c26_6 (.cond X19 .skip (.exit 0))) (.seq (.blk 1 (.seq (.seq c26_7 (.cond X37 (.exit 1) .skip)) (.seq c26_8 (.seq c26_9 (.cond X48 c26_10 .skip))))) c26_11))
def c26_13 : CC := .reg [
 O p9 (.mv (.c (I 0))) 0] false
def c26_14 : CC := .reg [
 O p53 (.mv X9) 0,
 O p54 (.mv X5) 1,
 O p55 (.len 1 X54) 2,
 O p56 (.bin .lss .num X53 X55) 3] false
def c26_15 : CC := .reg [
 O p10 (.mv (.c (I 0))) 0] false
def c26_16 : CC := .reg [
 O p59 (.mv X10) 0,
 O p60 (.mv X9) 1,
 O p61 (.bin .lss .num X59 X60) 2] false
def c26_17 : CC := .reg [
 O p64 (.mv X5) 0,
 O p65 (.mv X9) 1,
 O p66 (.iaddr 7 X64 X65) 2,
 O p67 (.faddr 1 X66) 3,
 O p68 (.load 1 false X67) 4,
 O p69 (.mv X5) 5,
 O p70 (.mv X10) 6,
 O p71 (.iaddr 7 X69 X70) 7,
 O p72 (.faddr 1 X71) 8,
 O p73 (.load 1 false X72) 9,
 O p74 (.bin .eql .num X68 X73) 10] true
def c26_18 : CC := .reg [
 O p2 (.mv (.c .nils)) 0,
 O p3 (.mv (.c (I 70))) 1] false
def c26_19 : CC := .reg [
 O p62 (.mv X10) 0,
 O p63 (.bin .add .num X62 (.c (I 1))) 1,
 O p10 (.mv X63) 2] false
def c26_20 : CC := .loop (.seq (.seq c26_16 (.cond X61 .skip (.exit 4))) (.seq (.blk 5 (.seq c26_17 (.cond X74 (.seq c26_18 .ret) .skip))) c26_19))
def c26_21 : CC := .reg [
 O p57 (.mv X9) 0,
 O p58 (.bin .add .num X57 (.c (I 1))) 1,
 O p9 (.mv X58) 2] false
def c26_22 : CC := .loop (.seq (.seq c26_14 (.cond X56 .skip (.exit 2))) (.seq (.blk 3 (.seq c26_15 (.blk 4 c26_20))) c26_21))
def c26_23 : CC := .reg [
 O p75 (.mv X5) 0,
 O p2 (.mv X75) 1,
 O p3 (.mv (.c (I 0))) 2] false
def F26 : CF := .mk 76 [p0] 7 (.seq c26_0 (.seq c26_1 (.seq (.seq c26_2 (.cond X14 (.seq c26_3 .ret) .skip)) (.seq c26_4 (.seq (.seq c26_5 (.blk 0 c26_12)) (.seq (.seq c26_13 (.blk 2 c26_22)) (.seq c26_23 .ret))))))) [.t p2, .t p3] 3
/- daybook/pull.Pull -/
def c27_0 : CC := .reg [
 O p8 (.mv (.c .nils)) 0,
 O p9 (.mv (.c (I 0))) 1] false
def c27_1 : CC := .reg [
 O p17 (.mv X3) 0,
 O p18 (.call (.c (.fn 19 [])) [X17]) 1,
 O p19 (.bin .neq .num X18 (.c (I 0))) 2] false
def c27_2 : CC := .reg [
 O p8 (.mv (.c .nils)) 0,
 O p9 (.mv (.c (I 190))) 1] false
def c27_3 : CC := .reg [
 O p20 (.mv X1) 0,
 O p21 (.call (.c (.fn 54 [])) [X20]) 1,
 O p10 (.mv X21) 2] false
def c27_4 : CC := .reg [
 O p22 (.mv X10) 0,
 O p23 (.bin .neq .num X22 (.c (I 0))) 1] false
def c27_5 : CC := .reg [
 O p24 (.mv X10) 0,
 O p8 (.mv (.c .nils)) 1,
 O p9 (.mv X24) 2] false
def c27_6 : CC := .reg [
 O p25 (.mv X1) 0,
 O p26 .mkmap 1,
 O p27 (.build [.nils, .nilm, .nils, I 0, (.bool false)] [(0, 1, X25), (1, 1, X26)]) 2,
 O p28 (.box 107 X27) 3,
 O p11 (.mv X28) 4] false
def c27_7 : CC := .reg [
 O p29 (.mv X0) 0,
 O p30 (.len 1 X29) 1,
 O p31 (.mv (.c (I 0))) 2] false
def c27_8 : CC := .reg [
 O p32 (.bin .lss .num X31 X30) 0] false
def c27_9 : CC := .reg [
 O p33 (.iaddr 7 X29 X31) 0,
 O p34 (.load 7 true X33) 1,
 O p13 (.alloc 66 [I 0, (.str []), I 0, (.bool false), I 0, (.bool false), (.bool false)]) 2,
 ON (.store 7 X13 X34) 3] false
def c27_10 : CC := .reg [
 O p36 (.mv X11) 0,
 O p37 (.nilck X36) 1,
 O p38 (.faddr 1 X37) 2,
 O p39 (.load 1 false X38) 3,
 O p40 (.faddr 1 X13) 4,
 O p41 (.load 1 false X40) 5,
 O p42 (.lookup true (I 0) true X39 X41) 6,
 O p35 (.mv X42) 7,
 O p43 (.ext 0 X35) 8,
 O p44 (.ext 1 X35) 9,
 O p14 (.mv X43) 10,
 O p15 (.mv X44) 11] true
def c27_11 : CC := .reg [
 O p45 (.mv X15) 0,
 O p46 (.un .not X45) 1] false
def c27_12 : CC := .reg [
 O p47 (.mv X11) 0,
 O p48 (.nilck X47) 1,
 O p49 (.faddr 1 X48) 2,
 O p50 (.load 1 false X49) 3,
 O p51 (.faddr 1 X13) 4,
 O p52 (.load 1 false X51) 5,
 O p53 (.faddr 0 X13) 6,
 O p54 (.load 1 false X53) 7,
 ON (.mapup true X50 X52 X54) 8] true
def c27_13 : CC := .reg [
 O p55 (.mv X11) 0,
 O p56 (.mv X11) 1,
 O p57 (.nilck X56) 2,
 O p58 (.faddr 2 X57) 3,
 O p59 (.load 1 false X58) 4,
 O p60 (.load 7 true X13) 5,
 O p61 (.bslice 66 7 [I 0, (.str []), I 0, (.bool false), I 0, (.bool false), (.bool false)] 1 [(0, X60)]) 6,
 O p62 (.append 66 7 X59 X61) 7,
 O p63 (.nilck X55) 8,
 O p64 (.faddr 2 X63) 9,
 ON (.store 1 X64 X62) 10] true
def c27_14 : CC := .reg [
 O p65 (.bin .add .num X31 (.c (I 1))) 0,
 O p31 (.mv X65) 1] false
def c27_15 : CC := .loop (.seq c27_8 (.seq (.cond X32 .skip (.exit 0)) (.seq (.blk 1 (.seq c27_9 (.seq c27_10 (.seq c27_11 (.cond X46 (.seq c27_12 c27_13) .skip))))) c27_14)))
def c27_16 : CC := .reg [
 O p66 (.mv X11) 0,
 O p67 (.mv X3) 1,
 O p68 (.call (.c (.fn 55 [])) [X66, X67]) 2,
 O p69 (.un .not X68) 3] false
def c27_17 : CC := .reg [
 O p8 (.mv (.c .nils)) 0,
 O p9 (.mv (.c (I 200))) 1] false
def c27_18 : CC := .reg [
 O p70 (.mv X11) 0,
 O p71 (.mv X2) 1,
 O p72 (.mv X3) 2,
 O p73 (.mv X2) 3,
 O p74 (.bslice 2 1 [I 0] 1 [(0, X73)]) 4,
 O p75 (.call (.c (.fn 56 [])) [X70, X71, X72, X74]) 5,
 O p16 (.mv X75) 6] false
def c27_19 : CC := .reg [
 O p76 (.mv X11) 0,
 O p77 (.nilck X76) 1,
 O p78 (.faddr 4 X77) 2,
 O p79 (.load 1 false X78) 3] false
def c27_20 : CC := .reg [
 O p8 (.mv (.c .nils)) 0,
 O p9 (.mv (.c (I 201))) 1] false
def c27_21 : CC := .reg [
 O p80 (.mv X16) 0,
 O p8 (.mv X80) 1,
 O p9 (.mv (.c (I 0))) 2] false
def F27 : CF := .mk 81 [p0, p1, p2, p3] 7 (.seq c27_0 (.seq (.seq c27_1 (.cond X19 (.seq c27_2 .ret) .skip)) (.seq (.seq c27_3 (.seq c27_4 (.cond X23 (.seq c27_5 .ret) .skip))) (.seq c27_6 (.seq (.seq c27_7 (.blk 0 c27_15)) (.seq (.seq c27_16 (.cond X69 (.seq c27_17 .ret) .skip)) (.seq c27_18 (.seq (.seq c27_19 (.cond X79 (.seq c27_20 .ret) .skip)) (.seq c27_21 .ret))))))))) [.t p8, .t p9] 3
/- daybook/daybookref07.Builtin -/
def c31_0 : CC := .reg [
 O p0 (.mv (.c .nils)) 0] false
def c31_1 : CC := .reg [
 O p6 (.bslice 9 1 [(.str [])] 7 [(0, (.c (.str [110, 97, 109, 101]))), (1, (.c (.str [116, 121, 112, 101]))), (2, (.c (.str [109, 97, 110, 121]))), (3, (.c (.str [117, 110, 105, 113, 117, 101]))), (4, (.c (.str [112, 97, 114, 116]))), (5, (.c (.str [105, 110, 100, 101, 120]))), (6, (.c (.str [100, 111, 99])))]) 0,
 O p1 (.mv X6) 1] false
def c31_2 : CC := .reg [
 O p7 (.bslice 3 1 [I 0] 7 [(0, (.c (I 7))), (1, (.c (I 1))), (2, (.c (I 2))), (3, (.c (I 1))), (4, (.c (I 2))), (5, (.c (I 2))), (6, (.c (I 3)))]) 0,
 O p2 (.mv X7) 1] false
def c31_3 : CC := .reg [
 O p3 (.mv (.c .nils)) 0] false
def c31_4 : CC := .reg [
 O p4 (.mv (.c (I 0))) 0] false
def c31_5 : CC := .reg [
 O p8 (.mv X4) 0,
 O p9 (.bin .lss .num X8 (.c (I 7))) 1] false
def c31_6 : CC := .reg [
 O p12 (.mv X4) 0,
 O p13 (.bin .add .num X12 (.c (I 1))) 1,
 O p14 (.mv X1) 2,
 O p15 (.mv X4) 3,
 O p16 (.iaddr 1 X14 X15) 4,
 O p17 (.load 1 false X16) 5,
 O p18 (.bin .add .num (.c (.str [100, 98, 47])) X17) 6,
 O p19 (.mv X2) 7,
 O p20 (.mv X4) 8,
 O p21 (.iaddr 1 X19 X20) 9,
 O p22 (.load 1 false X21) 10,
 O p23 (.build [I 0, (.str []), I 0, (.bool false), I 0, (.bool false), (.bool false)] [(0, 1, X13), (1, 1, X18), (2, 1, X22)]) 11,
 O p5 (.alloc 66 [I 0, (.str []), I 0, (.bool false), I 0, (.bool false), (.bool false)]) 12,
 ON (.store 7 X5 X23) 13] true
def c31_7 : CC := .reg [
 O p24 (.mv X4) 0,
 O p25 (.bin .eql .num X24 (.c (I 0))) 1] false
def c31_8 : CC := .reg [
 O p26 (.faddr 4 X5) 0,
 ON (.store 1 X26 (.c (I 2))) 1] false
def c31_9 : CC := .reg [
 O p27 (.mv X3) 0,
 O p28 (.load 7 true X5) 1,
 O p29 (.bslice 66 7 [I 0, (.str []), I 0, (.bool false), I 0, (.bool false), (.bool false)] 1 [(0, X28)]) 2,
 O p30 (.append 66 7 X27 X29) 3,
 O p3 (.mv X30) 4] false
def c31_10 : CC := .reg [
 O p10 (.mv X4) 0,
 O p11 (.bin .add .num X10 (.c (I 1))) 1,
 O p4 (.mv X11) 2] false
def c31_11 : CC := .loop (.seq (.seq c31_5 (.cond X9 .skip (.exit 0))) (.seq (.blk 1 (.seq c31_6 (.seq (.seq c31_7 (.cond X25 c31_8 .skip)) c31_9))) c31_10))
def c31_12 : CC := .reg [
 O p31 (.mv X3) 0,
 O p0 (.mv X31) 1] false
def F31 : CF := .mk 32 [] 6 (.seq c31_0 (.seq c31_1 (.seq c31_2 (.seq c31_3 (.seq (.seq c31_4 (.blk 0 c31_11)) (.seq c31_12 .ret)))))) [.t p0] 0
/- daybook/daybooklaw20.few -/
def c32_0 : CC := .reg [
 O p0 (.mv (.c .nils)) 0] false
def c32_1 : CC := .reg [
 O p1 (.build [I 0, I 0, (.str [])] [(0, 1, (.c (I 7))), (2, 1, (.c (.str [97, 47, 110])))]) 0,
 O p2 (.call (.c (.fn 57 [])) [(.c (I 10)), (.c (I 1)), X1]) 1,
 O p3 (.call (.c (.fn 58 [])) [(.c (I 1))]) 2,
 O p4 (.call (.c (.fn 57 [])) [(.c (I 10)), (.c (I 2)), X3]) 3,
 O p5 (.build [I 0, I 0, (.str [])] [(0, 1, (.c (I 7))), (2, 1, (.c (.str [97, 47, 107, 105, 100])))]) 4,
 O p6 (.call (.c (.fn 57 [])) [(.c (I 11)), (.c (I 1)), X5]) 5,
 O p7 (.call (.c (.fn 58 [])) [(.c (I 5))]) 6,
 O p8 (.call (.c (.fn 57 [])) [(.c (I 11)), (.c (I 2)), X7]) 7,
 O p9 (.build [I 0, I 0, (.str [])] [(0, 1, (.c (I 2))), (1, 1, (.c (I 1)))]) 8,
 O p10 (.call (.c (.fn 57 [])) [(.c (I 11)), (.c (I 3)), X9]) 9,
 O p11 (.call (.c (.fn 58 [])) [(.c (I 1))]) 10,
 O p12 (.call (.c (.fn 57 [])) [(.c (I 20)), (.c (I 10)), X11]) 11,
 O p13 (.call (.c (.fn 59 [])) [(.c (I 21))]) 12,
 O p14 (.call (.c (.fn 57 [])) [(.c (I 20)), (.c (I 11)), X13]) 13,
 O p15 (.call (.c (.fn 58 [])) [(.c (I 2))]) 14,
 O p16 (.call (.c (.fn 57 [])) [(.c (I 21)), (.c (I 10)), X15]) 15,
 O p17 (.call (.c (.fn 59 [])) [(.c (I 20))]) 16,
 O p18 (.call (.c (.fn 57 [])) [(.c (I 21)), (.c (I 11)), X17]) 17,
 O p19 (.bslice 71 6 [I 0, I 0, I 0, I 0, (.str []), .nils] 9 [(0, X2), (1, X4), (2, X6), (3, X8), (4, X10), (5, X12), (6, X14), (7, X16), (8, X18)]) 18,
 O p0 (.mv X19) 19] false
def F32 : CF := .mk 20 [] 5 (.seq c32_0 (.seq c32_1 .ret)) [.t p0] 3
/- daybook/pull.Write -/
def c33_0 : CC := .reg [
 O p2 (.alloc 36 [I 0, I 0, I 0, (.str []), (.str []), .nils, I 0, I 0]) 0,
 O p3 (.mv (.c (I 0))) 1] false
def c33_1 : CC := .reg [
 O p4 (.alloc 3 [I 0]) 0,
 ON (.store 1 X4 (.c (I 0))) 1] false
def c33_2 : CC := .reg [
 O p5 (.mv X0) 0,
 O p6 (.call (.c (.fn 60 [])) [X5, (.c (I 1)), X4]) 1,
 O p7 (.un .not X6) 2] false
def c33_3 : CC := .reg [
 O p8 (.build [I 0, I 0, I 0, (.str []), (.str []), .nils, I 0, I 0] []) 0,
 ON (.store 8 X2 X8) 1,
 O p3 (.mv (.c (I 200))) 2] false
def c33_4 : CC := .reg [
 O p9 (.mv X0) 0,
 O p10 (.call (.c (.fn 61 [])) [X9]) 1,
 ON (.store 8 X2 X10) 2,
 O p3 (.mv (.c (I 0))) 3] false
def F33 : CF := .mk 11 [p0] 4 (.seq c33_0 (.seq c33_1 (.seq (.seq c33_2 (.cond X7 (.seq c33_3 .ret) .skip)) (.seq c33_4 .ret)))) [.cell p2 8 true, .t p3] 1
/- daybook/pull.Read -/
def c34_0 : CC := .reg [
 O p1 (.box 36 X0) 0,
 O p2 (.mv (.c .nils)) 1,
 O p3 (.mv (.c (I 0))) 2] false
def c34_1 : CC := .reg [
 O p8 (.load 8 true X1) 0,
 O p9 (.call (.c (.fn 62 [])) [X8, (.c (I 1))]) 1,
 O p7 (.mv X9) 2,
 O p10 (.ext 0 X7) 3,
 O p11 (.ext 1 X7) 4,
 O p4 (.mv X10) 5,
 O p5 (.mv X11) 6] false
def c34_2 : CC := .reg [
 O p6 (.alloc 3 [I 0]) 0,
 ON (.store 1 X6 (.c (I 0))) 1] false
def c34_3 : CC := .reg [
 O p12 (.mv X5) 0,
 O p13 (.un .not X12) 1,
 O p14 (.mv X13) 2,
 OG p15 p14 false (.mv X4) 3,
 OG p16 p14 false (.call (.c (.fn 60 [])) [X15, (.c (I 1)), X6]) 4,
 OG p17 p14 false (.un .not X16) 5,
 O p18 (.pick X14 (.c (.bool true)) X17) 6,
 O p19 (.mv X18) 7,
 .mk (some p20) (some (p19, false)) (.load 8 true X1) [10] 8,
 OG p21 p19 false (.mv X4) 9,
 OG p22 p19 false (.call (.c (.fn 61 [])) [X21]) 10,
 OG p23 p19 false (.call (.c (.fn 63 [])) [X20, X22]) 11,
 OG p24 p19 false (.un .not X23) 12,
 O p25 (.pick X19 (.c (.bool true)) X24) 13] true
def c34_4 : CC := .reg [
 O p2 (.mv (.c .nils)) 0,
 O p3 (.mv (.c (I 200))) 1] false
def c34_5 : CC := .reg [
 O p26 (.mv X4) 0,
 O p2 (.mv X26) 1,
 O p3 (.mv (.c (I 0))) 2] false
def F34 : CF := .mk 27 [p0] 5 (.seq c34_0 (.seq c34_1 (.seq c34_2 (.seq (.seq c34_3 (.cond X25 (.seq c34_4 .ret) .skip)) (.seq c34_5 .ret))))) [.t p2, .t p3] 1
/- daybook/daybooklaw20.told -/
def c35_0 : CC := .reg [
 O p4 (.mv (.c (.str []))) 0] false
def c35_1 : CC := .reg [
 O p16 (.mv X1) 0,
 O p17 (.call (.c (.fn 11 [])) [X16]) 1,
 O p15 (.mv X17) 2,
 O p18 (.ext 0 X15) 3,
 O p19 (.ext 1 X15) 4,
 O p5 (.mv X18) 5,
 O p6 (.mv X19) 6] false
def c35_2 : CC := .reg [
 O p21 (.call (.c (.fn 32 [])) []) 0,
 O p22 (.call (.c (.fn 26 [])) [X21]) 1,
 O p20 (.mv X22) 2,
 O p23 (.ext 0 X20) 3,
 O p24 (.ext 1 X20) 4,
 O p7 (.mv X23) 5,
 O p8 (.mv X24) 6] false
def c35_3 : CC := .reg [
 O p26 (.mv X7) 0,
 O p27 (.call (.c (.fn 32 [])) []) 1,
 O p28 (.mv X0) 2,
 O p29 (.mv X5) 3,
 O p30 (.call (.c (.fn 27 [])) [X26, X27, X28, X29]) 4,
 O p25 (.mv X30) 5,
 O p31 (.ext 0 X25) 6,
 O p32 (.ext 1 X25) 7,
 O p9 (.mv X31) 8,
 O p10 (.mv X32) 9] false
def c35_4 : CC := .reg [
 O p34 (.mv X9) 0,
 O p35 (.call (.c (.fn 33 [])) [X34]) 1,
 O p33 (.mv X35) 2,
 O p36 (.ext 0 X33) 3,
 O p37 (.ext 1 X33) 4,
 O p11 (.alloc 36 [I 0, I 0, I 0, (.str []), (.str []), .nils, I 0, I 0]) 5,
 ON (.store 8 X11 X36) 6,
 O p12 (.mv X37) 7] false
def c35_5 : CC := .reg [
 O p39 (.load 8 true X11) 0,
 O p40 (.bslice 36 8 [I 0, I 0, I 0, (.str []), (.str []), .nils, I 0, I 0] 1 [(0, X39)]) 1,
 O p41 (.call (.c (.fn 51 [])) [X40]) 2,
 O p38 (.mv X41) 3,
 O p42 (.ext 0 X38) 4,
 O p43 (.ext 1 X38) 5,
 O p13 (.mv X42) 6,
 O p14 (.mv X43) 7] false
def c35_6 : CC := .reg [
 O p44 (.mv X6) 0,
 O p45 (.bin .neq .num X44 (.c (I 0))) 1,
 O p46 (.mv X45) 2,
 OG p47 p46 false (.mv X10) 3,
 OG p48 p46 false (.bin .neq .num X47 (.c (I 0))) 4,
 O p49 (.pick X46 (.c (.bool true)) X48) 5,
 O p50 (.mv X49) 6,
 OG p51 p50 false (.mv X12) 7,
 OG p52 p50 false (.bin .neq .num X51 (.c (I 0))) 8,
 O p53 (.pick X50 (.c (.bool true)) X52) 9,
 O p54 (.mv X53) 10,
 OG p55 p54 false (.mv X14) 11,
 OG p56 p54 false (.bin .neq .num X55 (.c (I 0))) 12,
 O p57 (.pick X54 (.c (.bool true)) X56) 13] false
def c35_7 : CC := .reg [
 O p4 (.mv (.c (.str []))) 0] false
def c35_8 : CC := .reg [
 O p58 (.mv X13) 0,
 O p4 (.mv X58) 1] false
def F35 : CF := .mk 59 [p0, p1] 6 (.seq c35_0 (.seq c35_1 (.seq c35_2 (.seq c35_3 (.seq c35_4 (.seq c35_5 (.seq (.seq c35_6 (.cond X57 (.seq c35_7 .ret) .skip)) (.seq c35_8 .ret)))))))) [.t p4] 3
/- daybook/daybooklaw20.Weigh -/
def c36_0 : CC := .reg [
 O p4 (.mv (.c (I 0))) 0] false
def c36_1 : CC := .reg [
 O p8 (.mv X1) 0,
 O p9 (.bin .gtr .num X8 (.c (I 60))) 1] false
def c36_2 : CC := .reg [
 O p4 (.mv (.c (I 10000))) 0] false
def c36_3 : CC := .reg [
 O p5 (.mv (.c (I 0))) 0] false
def c36_4 : CC := .reg [
 O p6 (.mv (.c (I 0))) 0] false
def c36_5 : CC := .reg [
 O p10 (.mv X6) 0,
 O p11 (.mv X0) 1,
 O p12 (.len 1 X11) 2,
 O p13 (.bin .lss .num X10 X12) 3,
 O p14 (.mv X13) 4,
 OG p15 p14 true (.mv X5) 5,
 OG p16 p14 true (.bin .leq .num X15 (.c (I 3000))) 6,
 O p17 (.pick X14 X16 (.c (.bool false))) 7] false
def c36_6 : CC := .reg [
 O p20 (.mv X5) 0,
 O p21 (.bin .add .num X20 (.c (I 1))) 1,
 O p22 (.mv X0) 2,
 O p23 (.mv X6) 3,
 O p24 (.iaddr 3 X22 X23) 4,
 O p25 (.faddr 0 X24) 5,
 O p26 (.load 1 false X25) 6,
 O p27 (.len 0 X26) 7,
 O p28 (.bin .quo .num X27 (.c (I 50))) 8,
 O p29 (.bin .add .num X21 X28) 9,
 O p5 (.mv X29) 10] false
def c36_7 : CC := .reg [
 O p7 (.mv (.c (I 0))) 0] false
def c36_8 : CC := .reg [
 O p30 (.mv X7) 0,
 O p31 (.mv X0) 1,
 O p32 (.mv X6) 2,
 O p33 (.iaddr 3 X31 X32) 3,
 O p34 (.faddr 2 X33) 4,
 O p35 (.load 1 false X34) 5,
 O p36 (.len 1 X35) 6,
 O p37 (.bin .lss .num X30 X36) 7,
 O p38 (.mv X37) 8,
 OG p39 p38 true (.mv X5) 9,
 OG p40 p38 true (.bin .leq .num X39 (.c (I 3000))) 10,
 O p41 (.pick X38 X40 (.c (.bool false))) 11] false
def c36_9 : CC := .reg [
 O p44 (.mv X5) 0,
 O p45 (.bin .add .num X44 (.c (I 1))) 1,
 O p46 (.mv X0) 2,
 O p47 (.mv X6) 3,
 O p48 (.iaddr 3 X46 X47) 4,
 O p49 (.faddr 2 X48) 5,
 .mk (some p50) none (.load 1 false X49) [26] 6,
 O p51 (.mv X7) 7,
 O p52 (.iaddr 5 X50 X51) 8,
 O p53 (.faddr 0 X52) 9,
 O p54 (.faddr 2 X53) 10,
 .mk (some p55) none (.load 1 false X54) [26] 11,
 O p56 (.len 0 X55) 12,
 O p57 (.bin .quo .num X56 (.c (I 50))) 13,
 O p58 (.bin .add .num X45 X57) 14,
 O p59 (.mv X0) 15,
 O p60 (.mv X6) 16,
 O p61 (.iaddr 3 X59 X60) 17,
 O p62 (.faddr 2 X61) 18,
 O p63 (.load 1 false X62) 19,
 O p64 (.mv X7) 20,
 O p65 (.iaddr 5 X63 X64) 21,
 O p66 (.faddr 4 X65) 22,
 O p67 (.load 1 false X66) 23,
 O p68 (.mv X1) 24,
 O p69 (.bin .add .num X68 (.c (I 1))) 25,
 O p70 (.call (.c (.fn 36 [])) [X67, X69]) 26,
 O p71 (.bin .add .num X58 X70) 27,
 O p5 (.mv X71) 28] true
def c36_10 : CC := .reg [
 O p42 (.mv X7) 0,
 O p43 (.bin .add .num X42 (.c (I 1))) 1,
 O p7 (.mv X43) 2] false
def c36_11 : CC := .loop (.seq (.seq c36_8 (.cond X41 .skip (.exit 2))) (.seq (.blk 3 c36_9) c36_10))
def c36_12 : CC := .reg [
 O p18 (.mv X6) 0,
 O p19 (.bin .add .num X18 (.c (I 1))) 1,
 O p6 (.mv X19) 2] false
def c36_13 : CC := .loop (.seq (.seq c36_5 (.cond X17 .skip (.exit 0))) (.seq (.blk 1 (.seq c36_6 (.seq c36_7 (.blk 2 c36_11)))) c36_12))
def c36_14 : CC := .reg [
 O p72 (.mv X5) 0,
 O p4 (.mv X72) 1] false
def F36 : CF := .mk 73 [p0, p1] 7 (.seq c36_0 (.seq (.seq c36_1 (.cond X9 (.seq c36_2 .ret) .skip)) (.seq c36_3 (.seq (.seq c36_4 (.blk 0 c36_13)) (.seq c36_14 .ret))))) [.t p4] 1
/- daybook/daybookref20.Same -/
def c37_0 : CC := .reg [
 O p4 (.mv (.c (.bool false))) 0] false
def c37_1 : CC := .reg [
 O p9 (.mv X0) 0,
 O p10 (.len 1 X9) 1,
 O p11 (.mv X1) 2,
 O p12 (.len 1 X11) 3,
 O p13 (.bin .neq .num X10 X12) 4] false
def c37_2 : CC := .reg [
 O p4 (.mv (.c (.bool false))) 0] false
def c37_3 : CC := .reg [
 O p5 (.mv (.c (I 0))) 0] false
def c37_4 : CC := .reg [
 O p14 (.mv X5) 0,
 O p15 (.mv X0) 1,
 O p16 (.len 1 X15) 2,
 O p17 (.bin .lss .num X14 X16) 3] false
def c37_5 : CC := .reg [
 O p20 (.mv X0) 0,
 O p21 (.mv X5) 1,
 O p22 (.iaddr 3 X20 X21) 2,
 O p23 (.faddr 0 X22) 3,
 O p24 (.load 1 false X23) 4,
 O p25 (.mv X1) 5,
 O p26 (.mv X5) 6,
 O p27 (.iaddr 3 X25 X26) 7,
 O p28 (.faddr 0 X27) 8,
 O p29 (.load 1 false X28) 9,
 O p30 (.bin .neq .num X24 X29) 10,
 O p31 (.mv X30) 11,
 OG p32 p31 false (.mv X0) 12,
 OG p33 p31 false (.mv X5) 13,
 OG p34 p31 false (.iaddr 3 X32 X33) 14,
 OG p35 p31 false (.faddr 1 X34) 15,
 OG p36 p31 false (.load 1 false X35) 16,
 OG p37 p31 false (.mv X1) 17,
 OG p38 p31 false (.mv X5) 18,
 OG p39 p31 false (.iaddr 3 X37 X38) 19,
 OG p40 p31 false (.faddr 1 X39) 20,
 OG p41 p31 false (.load 1 false X40) 21,
 OG p42 p31 false (.bin .neq .bool X36 X41) 22,
 O p43 (.pick X31 (.c (.bool true)) X42) 23,
 O p44 (.mv X43) 24,
 OG p45 p44 false (.mv X0) 25,
 OG p46 p44 false (.mv X5) 26,
 OG p47 p44 false (.iaddr 3 X45 X46) 27,
 OG p48 p44 false (.faddr 2 X47) 28,
 OG p49 p44 false (.load 1 false X48) 29,
 OG p50 p44 false (.len 1 X49) 30,
 OG p51 p44 false (.mv X1) 31,
 OG p52 p44 false (.mv X5) 32,
 OG p53 p44 false (.iaddr 3 X51 X52) 33,
 OG p54 p44 false (.faddr 2 X53) 34,
 OG p55 p44 false (.load 1 false X54) 35,
 OG p56 p44 false (.len 1 X55) 36,
 OG p57 p44 false (.bin .neq .num X50 X56) 37,
 O p58 (.pick X44 (.c (.bool true)) X57) 38] true
def c37_6 : CC := .reg [
 O p4 (.mv (.c (.bool false))) 0] false
def c37_7 : CC := .reg [
 O p6 (.mv (.c (I 0))) 0] false
def c37_8 : CC := .reg [
 O p59 (.mv X6) 0,
 O p60 (.mv X0) 1,
 O p61 (.mv X5) 2,
 O p62 (.iaddr 3 X60 X61) 3,
 O p63 (.faddr 2 X62) 4,
 O p64 (.load 1 false X63) 5,
 O p65 (.len 1 X64) 6,
 O p66 (.bin .lss .num X59 X65) 7] false
def c37_9 : CC := .reg [
 O p69 (.mv X0) 0,
 O p70 (.mv X5) 1,
 O p71 (.iaddr 3 X69 X70) 2,
 O p72 (.faddr 2 X71) 3,
 O p73 (.load 1 false X72) 4,
 O p74 (.mv X6) 5,
 O p75 (.iaddr 5 X73 X74) 6,
 O p76 (.load 5 true X75) 7,
 O p7 (.alloc 76 [I 0, I 0, (.str []), (.bool false), .nils]) 8,
 ON (.store 5 X7 X76) 9] false
def c37_10 : CC := .reg [
 O p77 (.mv X1) 0,
 O p78 (.mv X5) 1,
 O p79 (.iaddr 3 X77 X78) 2,
 O p80 (.faddr 2 X79) 3,
 O p81 (.load 1 false X80) 4,
 O p82 (.mv X6) 5,
 O p83 (.iaddr 5 X81 X82) 6,
 O p84 (.load 5 true X83) 7,
 O p8 (.alloc 76 [I 0, I 0, (.str []), (.bool false), .nils]) 8,
 ON (.store 5 X8 X84) 9] false
def c37_11 : CC := .reg [
 O p85 (.faddr 0 X7) 0,
 O p86 (.load 3 true X85) 1,
 O p87 (.faddr 0 X8) 2,
 O p88 (.load 3 true X87) 3,
 O p89 (.bin .neq (.cells [.i, .i, .s]) X86 X88) 4,
 O p90 (.mv X89) 5,
 OG p91 p90 false (.faddr 3 X7) 6,
 OG p92 p90 false (.load 1 false X91) 7,
 OG p93 p90 false (.faddr 3 X8) 8,
 OG p94 p90 false (.load 1 false X93) 9,
 OG p95 p90 false (.bin .neq .bool X92 X94) 10,
 O p96 (.pick X90 (.c (.bool true)) X95) 11,
 O p97 (.mv X96) 12,
 OG p98 p97 false (.faddr 4 X7) 13,
 OG p99 p97 false (.load 1 false X98) 14,
 OG p100 p97 false (.faddr 4 X8) 15,
 OG p101 p97 false (.load 1 false X100) 16,
 OG p102 p97 false (.call (.c (.fn 37 [])) [X99, X101]) 17,
 OG p103 p97 false (.un .not X102) 18,
 O p104 (.pick X97 (.c (.bool true)) X103) 19] false
def c37_12 : CC := .reg [
 O p4 (.mv (.c (.bool false))) 0] false
def c37_13 : CC := .reg [
 O p67 (.mv X6) 0,
 O p68 (.bin .add .num X67 (.c (I 1))) 1,
 O p6 (.mv X68) 2] false
def c37_14 : CC := .loop (.seq (.seq c37_8 (.cond X66 .skip (.exit 2))) (.seq (.blk 3 (.seq c37_9 (.seq c37_10 (.seq c37_11 (.cond X104 (.seq c37_12 .ret) .skip))))) c37_13))
def c37_15 : CC := .reg [
 O p18 (.mv X5) 0,
 O p19 (.bin .add .num X18 (.c (I 1))) 1,
 O p5 (.mv X19) 2] false
def c37_16 : CC := .loop (.seq (.seq c37_4 (.cond X17 .skip (.exit 0))) (.seq (.blk 1 (.seq (.seq c37_5 (.cond X58 (.seq c37_6 .ret) .skip)) (.seq c37_7 (.blk 2 c37_14)))) c37_15))
def c37_17 : CC := .reg [
 O p4 (.mv (.c (.bool true))) 0] false
def F37 : CF := .mk 105 [p0, p1] 7 (.seq c37_0 (.seq (.seq c37_1 (.cond X13 (.seq c37_2 .ret) .skip)) (.seq (.seq c37_3 (.blk 0 c37_16)) (.seq c37_17 .ret)))) [.t p4] 1
/- daybook/text.Parse -/
def c38_0 : CC := .reg [
 O p2 (.alloc 29 [.nils]) 0,
 O p3 (.alloc 3 [I 0]) 1,
 O p4 (.alloc 3 [I 0]) 2,
 O p5 (.alloc 23 [I 0]) 3] false
def c38_1 : CC := .reg [
 O p16 (.bslice 29 1 [.nils] 1 [(0, (.c .nils))]) 0,
 O p6 (.alloc 119 [.nils]) 1,
 ON (.store 1 X6 X16) 2] false
def c38_2 : CC := .reg [
 O p7 (.alloc 29 [.nils]) 0] false
def c38_3 : CC := .reg [
 O p8 (.alloc 3 [I 0]) 0,
 ON (.store 1 X8 (.c (I 0))) 1] false
def c38_4 : CC := .reg [
 O p17 (.mv X0) 0,
 O p18 (.call (.c (.fn 64 [])) [X17]) 1] false
def c38_5 : CC := .reg [
 O p9 (.alloc 124 [(.str []), I 0, I 0, (.bool false)]) 0,
 ON (.store 4 X9 X19) 1] false
def c38_6 : CC := .reg [
 O p20 (.load 1 false X6) 0,
 O p21 (.len 1 X20) 1,
 O p22 (.bin .sub .num X21 (.c (I 1))) 2,
 O p10 (.mv X22) 3] false
def c38_7 : CC := .reg [
 O p23 (.faddr 1 X9) 0,
 O p24 (.load 1 false X23) 1,
 O p25 (.faddr 2 X9) 2,
 O p26 (.load 1 false X25) 3,
 O p27 (.build [I 0, I 0, I 0, (.str []), (.str []), .nils, I 0, I 0] [(6, 1, X24), (7, 1, X26)]) 4,
 O p11 (.alloc 36 [I 0, I 0, I 0, (.str []), (.str []), .nils, I 0, I 0]) 5,
 ON (.store 8 X11 X27) 6] false
def c38_8 : CC := .reg [
 O p29 (.faddr 3 X9) 0,
 O p30 (.load 1 false X29) 1,
 O p31 (.mv X30) 2,
 OG p32 p31 false (.faddr 0 X9) 3,
 OG p33 p31 false (.load 1 false X32) 4,
 OG p34 p31 false (.bin .eql .num X33 (.c (.str []))) 5,
 OG p35 p31 false (.mv X34) 6,
 OG p36 p35 true (.mv X10) 7,
 OG p37 p35 true (.bin .gtr .num X36 (.c (I 0))) 8,
 OG p38 p31 false (.pick X35 X37 (.c (.bool false))) 9,
 O p39 (.pick X31 (.c (.bool true)) X38) 10,
 O p28 (.mv X39) 11] false
def c38_9 : CC := .reg [
 O p40 (.faddr 1 X9) 0,
 .mk (some p41) none (.load 1 false X40) [4] 1,
 O p42 (.faddr 2 X9) 2,
 .mk (some p43) none (.load 1 false X42) [4, 5] 3,
 ON (.store 1 X2 (.c .nils)) 4,
 ON (.store 1 X3 X41) 5,
 ON (.store 1 X4 X43) 6,
 ON (.store 1 X5 (.c (I 50))) 7] true
def c38_10 : CC := .reg [
 O p45 (.faddr 0 X9) 0,
 O p46 (.load 1 false X45) 1,
 O p47 (.bin .eql .num X46 (.c (.str []))) 2,
 O p44 (.mv X47) 3] false
def c38_11 : CC := .reg [
 O p48 (.load 1 false X6) 0,
 O p49 (.iaddr 1 X48 (.c (I 0))) 1,
 O p50 (.load 1 false X49) 2,
 ON (.store 1 X2 X50) 3,
 ON (.store 1 X3 (.c (I 0))) 4,
 ON (.store 1 X4 (.c (I 0))) 5,
 ON (.store 1 X5 (.c (I 0))) 6] false
def c38_12 : CC := .reg [
 O p52 (.faddr 0 X9) 0,
 O p53 (.load 1 false X52) 1,
 O p54 (.call (.c (.fn 65 [])) [(.c (.str [41, 93, 125])), X53]) 2,
 O p51 (.mv X54) 3] false
def c38_13 : CC := .reg [
 O p55 (.faddr 0 X9) 0,
 O p56 (.load 1 false X55) 1,
 O p57 (.call (.c (.fn 66 [])) [(.c (.str [41, 93, 125])), X56]) 2,
 O p12 (.mv X57) 3] false
def c38_14 : CC := .reg [
 O p58 (.mv X10) 0,
 O p59 (.bin .eql .num X58 (.c (I 0))) 1,
 O p60 (.mv X59) 2,
 OG p61 p60 false (.load 1 false X7) 3,
 OG p62 p60 false (.mv X10) 4,
 OG p63 p60 false (.bin .sub .num X62 (.c (I 1))) 5,
 OG p64 p60 false (.iaddr 8 X61 X63) 6,
 OG p65 p60 false (.faddr 0 X64) 7,
 OG p66 p60 false (.load 1 false X65) 8,
 OG p67 p60 false (.mv X12) 9,
 OG p68 p60 false (.bin .add .num (.c (I 3)) X67) 10,
 OG p69 p60 false (.bin .neq .num X66 X68) 11,
 O p70 (.pick X60 (.c (.bool true)) X69) 12] false
def c38_15 : CC := .reg [
 O p71 (.faddr 1 X9) 0,
 .mk (some p72) none (.load 1 false X71) [4] 1,
 O p73 (.faddr 2 X9) 2,
 .mk (some p74) none (.load 1 false X73) [4, 5] 3,
 ON (.store 1 X2 (.c .nils)) 4,
 ON (.store 1 X3 X72) 5,
 ON (.store 1 X4 X74) 6,
 ON (.store 1 X5 (.c (I 50))) 7] true
def c38_16 : CC := .reg [
 O p75 (.load 1 false X7) 0,
 O p76 (.mv X10) 1,
 O p77 (.bin .sub .num X76 (.c (I 1))) 2,
 O p78 (.iaddr 8 X75 X77) 3,
 O p79 (.load 8 true X78) 4,
 ON (.store 8 X11 X79) 5] false
def c38_17 : CC := .reg [
 O p80 (.load 1 false X6) 0,
 O p81 (.mv X10) 1,
 O p82 (.iaddr 1 X80 X81) 2,
 O p83 (.load 1 false X82) 3,
 O p84 (.faddr 5 X11) 4,
 ON (.store 1 X84 X83) 5] false
def c38_18 : CC := .reg [
 O p85 (.load 1 false X6) 0,
 O p86 (.mv X10) 1,
 O p87 (.slice 1 X85 none (some X86) none) 2,
 .mk (some p88) none (.load 1 false X7) [7] 3,
 O p89 (.mv X10) 4,
 O p90 (.bin .sub .num X89 (.c (I 1))) 5,
 O p91 (.slice 8 X88 none (some X90) none) 6,
 ON (.store 1 X6 X87) 7,
 ON (.store 1 X7 X91) 8] true
def c38_19 : CC := .reg [
 O p94 (.load 1 false X6) 0,
 O p95 (.mv X10) 1,
 O p96 (.bin .sub .num X95 (.c (I 1))) 2,
 O p97 (.load 1 false X6) 3,
 O p98 (.mv X10) 4,
 O p99 (.bin .sub .num X98 (.c (I 1))) 5,
 O p100 (.iaddr 1 X97 X99) 6,
 O p101 (.load 1 false X100) 7,
 O p102 (.load 8 true X11) 8,
 O p103 (.len 1 X101) 9,
 O p104 (.bslice 36 8 [I 0, I 0, I 0, (.str []), (.str []), .nils, I 0, I 0] 1 [(0, (.c (.agg [I 0, I 0, I 0, (.str []), (.str []), .nils, I 0, I 0])))]) 10,
 O p105 (.append 36 8 X101 X104) 11,
 O p106 (.iaddr 1 X94 X96) 12,
 ON (.store 1 X106 X105) 13] true
def c38_20 : CC := .reg [
 O p107 (.iaddr 8 X105 X103) 0,
 ON (.store 8 X107 X102) 1] false
def c38_21 : CC := .reg [
 .mk (some p108) none (.load 1 false X6) [10] 0,
 O p109 (.mv X10) 1,
 O p110 (.bin .sub .num X109 (.c (I 1))) 2,
 O p111 (.load 1 false X6) 3,
 O p112 (.mv X10) 4,
 O p113 (.bin .sub .num X112 (.c (I 1))) 5,
 O p114 (.iaddr 1 X111 X113) 6,
 O p115 (.load 1 false X114) 7,
 O p116 (.load 8 true X11) 8,
 O p117 (.bslice 36 8 [I 0, I 0, I 0, (.str []), (.str []), .nils, I 0, I 0] 1 [(0, X116)]) 9,
 O p118 (.append 36 8 X115 X117) 10,
 O p119 (.iaddr 1 X108 X110) 11,
 ON (.store 1 X119 X118) 12] true
def c38_22 : CC := .reg [
 O p120 (.load 1 false X8) 0,
 O p121 (.bin .add .num X120 (.c (I 1))) 1,
 ON (.store 1 X8 X121) 2] false
def c38_23 : CC := .reg [
 O p122 (.load 1 false X8) 0,
 O p123 (.bin .gtr .num X122 (.c (I 5000))) 1] false
def c38_24 : CC := .reg [
 O p124 (.faddr 1 X9) 0,
 .mk (some p125) none (.load 1 false X124) [4] 1,
 O p126 (.faddr 2 X9) 2,
 .mk (some p127) none (.load 1 false X126) [4, 5] 3,
 ON (.store 1 X2 (.c .nils)) 4,
 ON (.store 1 X3 X125) 5,
 ON (.store 1 X4 X127) 6,
 ON (.store 1 X5 (.c (I 50))) 7] true
def c38_25 : CC := .reg [
 O p128 (.faddr 0 X9) 0,
 O p129 (.load 1 false X128) 1,
 O p130 (.call (.c (.fn 66 [])) [(.c (.str [40, 91, 123])), X129]) 2,
 O p13 (.mv X130) 3] false
def c38_26 : CC := .reg [
 O p131 (.mv X13) 0,
 O p132 (.bin .geq .num X131 (.c (I 0))) 1] false
def c38_27 : CC := .reg [
 O p133 (.mv X10) 0,
 O p134 (.bin .eql .num X133 (.c (I 50))) 1] false
def c38_28 : CC := .reg [
 O p135 (.faddr 1 X9) 0,
 .mk (some p136) none (.load 1 false X135) [4] 1,
 O p137 (.faddr 2 X9) 2,
 .mk (some p138) none (.load 1 false X137) [4, 5] 3,
 ON (.store 1 X2 (.c .nils)) 4,
 ON (.store 1 X3 X136) 5,
 ON (.store 1 X4 X138) 6,
 ON (.store 1 X5 (.c (I 50))) 7] true
def c38_29 : CC := .reg [
 O p139 (.mv X13) 0,
 O p140 (.bin .add .num (.c (I 3)) X139) 1,
 O p141 (.faddr 0 X11) 2,
 ON (.store 1 X141 X140) 3] false
def c38_30 : CC := .reg [
 O p142 (.load 1 false X6) 0,
 O p143 (.bslice 29 1 [.nils] 1 [(0, (.c .nils))]) 1,
 .mk (some p145) none (.load 1 false X7) [5] 3,
 .mk (some p146) none (.load 8 true X11) [5] 4,
 .mk (some p147) none (.bslice 36 8 [I 0, I 0, I 0, (.str []), (.str []), .nils, I 0, I 0] 1 [(0, X146)]) [5] 5,
 O p144 (.append 29 1 X142 X143) 2,
 O p148 (.append 36 8 X145 X147) 6,
 ON (.store 1 X6 X144) 7,
 ON (.store 1 X7 X148) 8] true
def c38_31 : CC := .reg [
 O p150 (.faddr 0 X9) 0,
 O p151 (.load 1 false X150) 1,
 O p152 (.call (.c (.fn 67 [])) [X151]) 2,
 O p149 (.mv X152) 3,
 O p153 (.ext 0 X149) 4,
 O p154 (.ext 1 X149) 5,
 O p14 (.alloc 34 [I 0, I 0, (.str [])]) 6,
 ON (.store 3 X14 X153) 7,
 O p15 (.mv X154) 8] false
def c38_32 : CC := .reg [
 O p160 (.mv X15) 0,
 O p161 (.bin .eql .num X160 (.c (I 0))) 1,
 O p159 (.mv X161) 2] false
def c38_33 : CC := .reg [
 .mk (some p162) none (.load 3 true X14) [2] 0,
 O p163 (.faddr 0 X11) 1,
 ON (.store 1 X163 (.c (I 1))) 2,
 O p164 (.faddr 1 X11) 3,
 ON (.store 3 X164 X162) 4] true
def c38_34 : CC := .reg [
 O p166 (.faddr 0 X9) 0,
 O p167 (.load 1 false X166) 1,
 O p168 (.call (.c (.fn 68 [])) [X167]) 2,
 O p165 (.mv X168) 3] false
def c38_35 : CC := .reg [
 O p169 (.faddr 0 X9) 0,
 .mk (some p170) none (.load 1 false X169) [3] 1,
 O p171 (.faddr 0 X11) 2,
 ON (.store 1 X171 (.c (I 2))) 3,
 O p172 (.faddr 4 X11) 4,
 ON (.store 1 X172 X170) 5] true
def c38_36 : CC := .reg [
 O p155 (.faddr 1 X9) 0,
 .mk (some p156) none (.load 1 false X155) [4] 1,
 O p157 (.faddr 2 X9) 2,
 .mk (some p158) none (.load 1 false X157) [4, 5] 3,
 ON (.store 1 X2 (.c .nils)) 4,
 ON (.store 1 X3 X156) 5,
 ON (.store 1 X4 X158) 6,
 ON (.store 1 X5 (.c (I 50))) 7] true
def c38_37 : CC := .reg [
 O p175 (.load 1 false X6) 0,
 O p176 (.mv X10) 1,
 O p177 (.iaddr 1 X175 X176) 2,
 O p178 (.load 1 false X177) 3,
 O p179 (.load 8 true X11) 4,
 O p180 (.len 1 X178) 5,
 O p181 (.bslice 36 8 [I 0, I 0, I 0, (.str []), (.str []), .nils, I 0, I 0] 1 [(0, (.c (.agg [I 0, I 0, I 0, (.str []), (.str []), .nils, I 0, I 0])))]) 6,
 O p182 (.append 36 8 X178 X181) 7,
 O p183 (.iaddr 1 X175 X176) 8,
 ON (.store 1 X183 X182) 9] true
def c38_38 : CC := .reg [
 O p184 (.iaddr 8 X182 X180) 0,
 ON (.store 8 X184 X179) 1] false
def c38_39 : CC := .reg [
 .mk (some p185) none (.load 1 false X6) [8] 0,
 O p186 (.mv X10) 1,
 O p187 (.load 1 false X6) 2,
 O p188 (.mv X10) 3,
 O p189 (.iaddr 1 X187 X188) 4,
 O p190 (.load 1 false X189) 5,
 O p191 (.load 8 true X11) 6,
 O p192 (.bslice 36 8 [I 0, I 0, I 0, (.str []), (.str []), .nils, I 0, I 0] 1 [(0, X191)]) 7,
 O p193 (.append 36 8 X190 X192) 8,
 O p194 (.iaddr 1 X185 X186) 9,
 ON (.store 1 X194 X193) 10] true
def c38_40 : CC := .rng X18 [p19] c38_5 (.blk 1 (.seq c38_6 (.seq c38_7 (.seq (.blk 2 (.seq c38_8 (.cond X28 (.seq c38_9 .ret) (.seq c38_10 (.cond X44 (.seq c38_11 .ret) (.seq c38_12 (.cond X51 (.seq c38_13 (.seq (.seq c38_14 (.cond X70 (.seq c38_15 .ret) .skip)) (.seq c38_16 (.seq c38_17 (.seq c38_18 (.seq (.coin p92 p93 (.seq c38_19 c38_20) c38_21) (.exit 1))))))) .skip))))))) (.seq (.seq c38_22 (.seq c38_23 (.cond X123 (.seq c38_24 .ret) .skip))) (.seq (.seq c38_25 (.seq c38_26 (.cond X132 (.seq (.seq c38_27 (.cond X134 (.seq c38_28 .ret) .skip)) (.seq c38_29 (.seq c38_30 (.exit 1)))) .skip))) (.seq c38_31 (.seq (.blk 3 (.seq c38_32 (.cond X159 c38_33 (.seq c38_34 (.cond X165 c38_35 (.seq c38_36 .ret)))))) (.coin p173 p174 (.seq c38_37 c38_38) c38_39)))))))))
def c38_41 : CC := .reg [
 ON (.store 1 X2 (.c .nils)) 0,
 ON (.store 1 X3 (.c (I 0))) 1,
 ON (.store 1 X4 (.c (I 0))) 2,
 ON (.store 1 X5 (.c (I 0))) 3] false
def F38 : CF := .mk 195 [p0] 8 (.seq c38_0 (.seq c38_1 (.seq c38_2 (.seq c38_3 (.seq (.seq c38_4 (.blk 0 c38_40)) (.seq c38_41 .ret)))))) [.cell p2 1 false, .cell p3 1 false, .cell p4 1 false, .cell p5 1 false] 3
/- daybook/shape.items -/
def c41_0 : CC := .reg [
 O p2 (.box 36 X0) 0,
 O p4 (.mv (.c .nils)) 1,
 O p5 (.mv (.c (.bool false))) 2] false
def c41_1 : CC := .reg [
 O p12 (.faddr 0 X2) 0,
 O p13 (.load 1 false X12) 1,
 O p14 (.bin .neq .num X13 (.c (I 4))) 2,
 O p15 (.mv X14) 3,
 OG p16 p15 false (.mv X1) 4,
 OG p17 p15 false (.bin .gtr .num X16 (.c (I 20))) 5,
 O p18 (.pick X15 (.c (.bool true)) X17) 6] false
def c41_2 : CC := .reg [
 O p4 (.mv (.c .nils)) 0,
 O p5 (.mv (.c (.bool false))) 1] false
def c41_3 : CC := .reg [
 O p6 (.mv (.c .nils)) 0] false
def c41_4 : CC := .reg [
 O p7 (.mv (.c (.bool true))) 0] false
def c41_5 : CC := .reg [
 O p19 (.faddr 5 X2) 0,
 O p20 (.load 1 false X19) 1,
 O p21 (.len 1 X20) 2,
 O p22 (.mv (.c (I 0))) 3] false
def c41_6 : CC := .reg [
 O p23 (.bin .lss .num X22 X21) 0] false
def c41_7 : CC := .reg [
 O p24 (.iaddr 8 X20 X22) 0,
 O p25 (.load 8 true X24) 1,
 O p9 (.alloc 36 [I 0, I 0, I 0, (.str []), (.str []), .nils, I 0, I 0]) 2,
 ON (.store 8 X9 X25) 3] false
def c41_8 : CC := .reg [
 O p27 (.load 8 true X9) 0,
 O p28 (.mv X1) 1,
 O p29 (.call (.c (.fn 72 [])) [X27, X28]) 2,
 O p26 (.mv X29) 3,
 O p30 (.ext 0 X26) 4,
 O p31 (.ext 1 X26) 5,
 O p10 (.alloc 44 [(.bool false), (.str []), (.bool false), I 0, (.bool false), I 0, I 0, (.str []), (.bool false), .nils, I 0]) 6,
 ON (.store 11 X10 X30) 7,
 O p11 (.mv X31) 8] false
def c41_9 : CC := .reg [
 O p32 (.mv X11) 0,
 O p33 (.un .not X32) 1] false
def c41_10 : CC := .reg [
 O p7 (.mv (.c (.bool false))) 0] false
def c41_11 : CC := .reg [
 O p34 (.mv X6) 0,
 O p35 (.load 11 true X10) 1,
 O p36 (.bslice 44 11 [(.bool false), (.str []), (.bool false), I 0, (.bool false), I 0, I 0, (.str []), (.bool false), .nils, I 0] 1 [(0, X35)]) 2,
 O p37 (.append 44 11 X34 X36) 3,
 O p6 (.mv X37) 4] false
def c41_12 : CC := .reg [
 O p38 (.bin .add .num X22 (.c (I 1))) 0,
 O p22 (.mv X38) 1] false
def c41_13 : CC := .loop (.seq c41_6 (.seq (.cond X23 .skip (.exit 0)) (.seq (.blk 1 (.seq c41_7 (.seq c41_8 (.seq (.seq c41_9 (.cond X33 (.seq c41_10 (.exit 0)) .skip)) c41_11)))) c41_12)))
def c41_14 : CC := .reg [
 O p39 (.mv X6) 0,
 O p40 (.mv X7) 1,
 O p4 (.mv X39) 2,
 O p5 (.mv X40) 3] false
def F41 : CF := .mk 41 [p0, p1] 6 (.seq c41_0 (.scope (.seq (.seq c41_1 (.cond X18 (.seq c41_2 .ret) .skip)) (.seq c41_3 (.seq c41_4 (.seq .skip (.seq (.seq c41_5 (.blk 0 c41_13)) (.seq c41_14 .ret)))))))) [.t p4, .t p5] 3
/- daybook/shape.may -/
def c42_0 : CC := .reg [
 O p2 (.alloc 4 [(.bool false)]) 0] false
def c42_1 : CC := .reg [
 O p3 (.alloc 3 [I 0]) 0,
 ON (.store 1 X3 (.c (I 0))) 1] false
def c42_2 : CC := .reg [
 O p8 (.mv X0) 0,
 O p9 (.call (.c (.fn 73 [])) [X8, (.c (I 1))]) 1] false
def c42_3 : CC := .reg [
 O p4 (.mv X10) 0] false
def c42_4 : CC := .reg [
 O p5 (.mv X11) 0] false
def c42_5 : CC := .reg [
 O p12 (.load 1 false X3) 0,
 O p13 (.mv X5) 1,
 O p14 (.len 1 X13) 2,
 O p15 (.bin .add .num X12 X14) 3,
 ON (.store 1 X3 X15) 4] false
def c42_6 : CC := .reg [
 O p16 (.mv X4) 0,
 O p17 (.bin .gtr .num X16 (.c (I 20))) 1,
 O p18 (.mv X17) 2,
 OG p19 p18 false (.load 1 false X3) 3,
 OG p20 p18 false (.bin .gtr .num X19 (.c (I 1000))) 4,
 O p21 (.pick X18 (.c (.bool true)) X20) 5] false
def c42_7 : CC := .reg [
 ON (.store 1 X2 (.c (.bool false))) 0] false
def c42_8 : CC := .reg [
 O p22 (.mv X5) 0,
 O p23 (.len 1 X22) 1,
 O p24 (.mv (.c (I 0))) 2] false
def c42_9 : CC := .reg [
 O p25 (.bin .lss .num X24 X23) 0] false
def c42_10 : CC := .reg [
 O p26 (.mv X24) 0,
 O p27 (.iaddr 11 X22 X24) 1,
 O p28 (.load 11 true X27) 2,
 O p7 (.alloc 44 [(.bool false), (.str []), (.bool false), I 0, (.bool false), I 0, I 0, (.str []), (.bool false), .nils, I 0]) 3,
 O p6 (.mv X26) 4,
 ON (.store 11 X7 X28) 5] false
def c42_11 : CC := .reg [
 O p29 (.load 11 true X7) 0,
 O p30 (.call (.c (.fn 74 [])) [X29]) 1,
 O p31 (.un .not X30) 2,
 O p32 (.mv X31) 3,
 OG p33 p32 false (.mv X5) 4,
 OG p34 p32 false (.mv X6) 5,
 OG p35 p32 false (.slice 11 X33 none (some X34) none) 6,
 OG p36 p32 false (.mkfn 76 [X7]) 7,
 OG p37 p32 false (.call (.c (.fn 75 [])) [X35, X36]) 8,
 O p38 (.pick X32 (.c (.bool true)) X37) 9] false
def c42_12 : CC := .reg [
 ON (.store 1 X2 (.c (.bool false))) 0] false
def c42_13 : CC := .reg [
 O p39 (.bin .add .num X24 (.c (I 1))) 0,
 O p24 (.mv X39) 1] false
def c42_14 : CC := .loop (.seq c42_9 (.seq (.cond X25 .skip (.exit 2)) (.seq (.blk 3 (.seq c42_10 (.seq c42_11 (.cond X38 (.seq c42_12 .ret) .skip)))) c42_13)))
def c42_15 : CC := .rng X9 [p10, p11] (.seq c42_3 c42_4) (.blk 1 (.seq c42_5 (.seq (.seq c42_6 (.cond X21 (.seq c42_7 .ret) .skip)) (.seq c42_8 (.blk 2 c42_14)))))
def c42_16 : CC := .reg [
 ON (.store 1 X2 (.c (.bool true))) 0] false
def F42 : CF := .mk 40 [p0] 6 (.seq c42_0 (.seq c42_1 (.seq (.seq c42_2 (.blk 0 c42_15)) (.seq c42_16 .ret)))) [.cell p2 1 false] 3
/- daybook/shape.same -/
def c43_0 : CC := .reg [
 O p2 (.box 36 X0) 0,
 O p3 (.box 36 X1) 1,
 O p4 (.mv (.c (.bool false))) 2] false
def c43_1 : CC := .reg [
 O p5 (.faddr 0 X2) 0,
 O p6 (.load 1 false X5) 1,
 O p7 (.faddr 0 X3) 2,
 O p8 (.load 1 false X7) 3,
 O p9 (.bin .eql .num X6 X8) 4,
 O p10 (.mv X9) 5,
 OG p11 p10 true (.faddr 1 X2) 6,
 OG p12 p10 true (.load 3 true X11) 7,
 OG p13 p10 true (.faddr 1 X3) 8,
 OG p14 p10 true (.load 3 true X13) 9,
 OG p15 p10 true (.bin .eql (.cells [.i, .i, .s]) X12 X14) 10,
 O p16 (.pick X10 X15 (.c (.bool false))) 11,
 O p17 (.mv X16) 12,
 OG p18 p17 true (.faddr 4 X2) 13,
 OG p19 p17 true (.load 1 false X18) 14,
 OG p20 p17 true (.faddr 4 X3) 15,
 OG p21 p17 true (.load 1 false X20) 16,
 OG p22 p17 true (.bin .eql .num X19 X21) 17,
 O p23 (.pick X17 X22 (.c (.bool false))) 18,
 O p24 (.mv X23) 19,
 OG p25 p24 true (.faddr 5 X2) 20,
 OG p26 p24 true (.load 1 false X25) 21,
 OG p27 p24 true (.faddr 5 X3) 22,
 OG p28 p24 true (.load 1 false X27) 23,
 OG p29 p24 true (.call (.c (.fn 78 [])) [X26, X28, (.c (.fn 43 []))]) 24,
 O p30 (.pick X24 X29 (.c (.bool false))) 25,
 O p4 (.mv X30) 26] false
def F43 : CF := .mk 31 [p0, p1] 5 (.seq c43_0 (.seq c43_1 .ret)) [.t p4] 3
/- daybook/shape.list -/
def c44_0 : CC := .reg [
 O p2 (.alloc 36 [I 0, I 0, I 0, (.str []), (.str []), .nils, I 0, I 0]) 0] false
def c44_1 : CC := .reg [
 O p6 (.build [I 0, I 0, I 0, (.str []), (.str []), .nils, I 0, I 0] [(0, 1, (.c (I 4)))]) 0,
 O p3 (.alloc 36 [I 0, I 0, I 0, (.str []), (.str []), .nils, I 0, I 0]) 1,
 ON (.store 8 X3 X6) 2] false
def c44_2 : CC := .reg [
 O p7 (.mv X0) 0,
 O p8 (.len 1 X7) 1,
 O p9 (.mv (.c (I 0))) 2] false
def c44_3 : CC := .reg [
 O p10 (.bin .lss .num X9 X8) 0] false
def c44_4 : CC := .reg [
 O p11 (.iaddr 11 X7 X9) 0,
 O p12 (.load 11 true X11) 1,
 O p5 (.alloc 44 [(.bool false), (.str []), (.bool false), I 0, (.bool false), I 0, I 0, (.str []), (.bool false), .nils, I 0]) 2,
 ON (.store 11 X5 X12) 3] false
def c44_5 : CC := .reg [
 O p13 (.faddr 5 X3) 0,
 .mk (some p14) none (.load 1 false X13) [3] 1,
 O p15 (.load 11 true X5) 2,
 O p16 (.call (.c (.fn 79 [])) [X15]) 3,
 O p17 (.bslice 36 8 [I 0, I 0, I 0, (.str []), (.str []), .nils, I 0, I 0] 1 [(0, X16)]) 4,
 O p18 (.append 36 8 X14 X17) 5,
 O p19 (.faddr 5 X3) 6,
 ON (.store 1 X19 X18) 7] true
def c44_6 : CC := .reg [
 O p20 (.bin .add .num X9 (.c (I 1))) 0,
 O p9 (.mv X20) 1] false
def c44_7 : CC := .loop (.seq c44_3 (.seq (.cond X10 .skip (.exit 0)) (.seq (.blk 1 (.seq c44_4 c44_5)) c44_6)))
def c44_8 : CC := .reg [
 O p21 (.load 8 true X3) 0,
 ON (.store 8 X2 X21) 1] false
def F44 : CF := .mk 22 [p0] 5 (.seq c44_0 (.seq c44_1 (.seq (.seq c44_2 (.blk 0 c44_7)) (.seq c44_8 .ret)))) [.cell p2 8 true] 3
/- daybook/text.Print -/
def c51_0 : CC := .reg [
 O p2 (.mv (.c (.str []))) 0,
 O p3 (.mv (.c (I 0))) 1] false
def c51_1 : CC := .reg [
 O p5 (.build [.nilp, .nils, I 0, I 0, (.bool false)] []) 0,
 O p6 (.box 150 X5) 1,
 O p4 (.mv X6) 2] false
def c51_2 : CC := .reg [
 O p7 (.mv X4) 0,
 O p8 (.mv X0) 1,
 O p9 (.call (.c (.fn 85 [])) [X7, X8, (.c (.str [32]))]) 2] false
def c51_3 : CC := .reg [
 O p10 (.mv X4) 0,
 O p11 (.nilck X10) 1,
 O p12 (.faddr 4 X11) 2,
 O p13 (.load 1 false X12) 3] false
def c51_4 : CC := .reg [
 O p2 (.mv (.c (.str []))) 0,
 O p3 (.mv (.c (I 2))) 1] false
def c51_5 : CC := .reg [
 O p14 (.mv X4) 0,
 O p15 (.nilck X14) 1,
 O p16 (.faddr 0 X15) 2,
 O p17 (.call (.c (.fn 86 [])) [X16]) 3,
 O p2 (.mv X17) 4,
 O p3 (.mv (.c (I 0))) 5] false
def F51 : CF := .mk 18 [p0] 5 (.seq c51_0 (.seq c51_1 (.seq (.seq c51_2 (.seq c51_3 (.cond X13 (.seq c51_4 .ret) .skip))) (.seq c51_5 .ret)))) [.t p2, .t p3] 3
/- daybook/daybookref06.May -/
def c52_0 : CC := .reg [
 O p2 (.mv (.c (.bool false))) 0] false
def c52_1 : CC := .reg [
 O p3 (.mv (.c (I 0))) 0] false
def c52_2 : CC := .reg [
 O p5 (.mv X3) 0,
 O p6 (.mv X0) 1,
 O p7 (.len 1 X6) 2,
 O p8 (.bin .lss .num X5 X7) 3] false
def c52_3 : CC := .reg [
 O p11 (.mv X0) 0,
 O p12 (.mv X3) 1,
 O p13 (.iaddr 6 X11 X12) 2,
 O p14 (.faddr 0 X13) 3,
 O p15 (.load 1 false X14) 4,
 O p16 (.mv X0) 5,
 O p17 (.mv X3) 6,
 O p18 (.iaddr 6 X16 X17) 7,
 O p19 (.faddr 1 X18) 8,
 O p20 (.load 1 false X19) 9,
 O p21 (.mv X0) 10,
 O p22 (.mv X3) 11,
 O p23 (.iaddr 6 X21 X22) 12,
 O p24 (.faddr 2 X23) 13,
 O p25 (.load 3 true X24) 14,
 O p26 (.build [I 0, I 0, I 0, I 0, (.str []), I 0, (.bool false), I 0, I 0] [(0, 1, X15), (1, 1, X20), (2, 3, X25), (5, 1, (.c (I 1))), (8, 1, (.c (I 1)))]) 15,
 O p4 (.alloc 154 [I 0, I 0, I 0, I 0, (.str []), I 0, (.bool false), I 0, I 0]) 16,
 ON (.store 9 X4 X26) 17] true
def c52_4 : CC := .reg [
 O p27 (.load 9 true X4) 0,
 O p28 (.call (.c (.fn 87 [])) [X27]) 1,
 O p29 (.un .not X28) 2,
 O p30 (.mv X29) 3,
 OG p31 p30 false (.mv X0) 4,
 OG p32 p30 false (.mv X3) 5,
 OG p33 p30 false (.iaddr 6 X31 X32) 6,
 OG p34 p30 false (.faddr 5 X33) 7,
 OG p35 p30 false (.load 1 false X34) 8,
 OG p36 p30 false (.len 1 X35) 9,
 OG p37 p30 false (.bin .eql .num X36 (.c (I 0))) 10,
 O p38 (.pick X30 (.c (.bool true)) X37) 11,
 O p39 (.mv X38) 12,
 OG p40 p39 false (.mv X0) 13,
 OG p41 p39 false (.mv X3) 14,
 OG p42 p39 false (.iaddr 6 X40 X41) 15,
 OG p43 p39 false (.faddr 5 X42) 16,
 OG p44 p39 false (.load 1 false X43) 17,
 OG p45 p39 false (.call (.c (.fn 88 [])) [X44]) 18,
 OG p46 p39 false (.un .not X45) 19,
 O p47 (.pick X39 (.c (.bool true)) X46) 20,
 O p48 (.mv X47) 21,
 OG p49 p48 false (.mv X3) 22,
 OG p50 p48 false (.bin .gtr .num X49 (.c (I 0))) 23,
 OG p51 p48 false (.mv X50) 24,
 OG p52 p51 true (.mv X0) 25,
 OG p53 p51 true (.mv X3) 26,
 OG p54 p51 true (.bin .sub .num X53 (.c (I 1))) 27,
 OG p55 p51 true (.iaddr 6 X52 X54) 28,
 OG p56 p51 true (.load 6 true X55) 29,
 OG p57 p51 true (.mv X0) 30,
 OG p58 p51 true (.mv X3) 31,
 OG p59 p51 true (.iaddr 6 X57 X58) 32,
 OG p60 p51 true (.load 6 true X59) 33,
 OG p61 p51 true (.call (.c (.fn 89 [])) [X56, X60]) 34,
 OG p62 p51 true (.bin .geq .num X61 (.c (I 0))) 35,
 OG p63 p48 false (.pick X51 X62 (.c (.bool false))) 36,
 O p64 (.pick X48 (.c (.bool true)) X63) 37] true
def c52_5 : CC := .reg [
 O p2 (.mv (.c (.bool false))) 0] false
def c52_6 : CC := .reg [
 O p9 (.mv X3) 0,
 O p10 (.bin .add .num X9 (.c (I 1))) 1,
 O p3 (.mv X10) 2] false
def c52_7 : CC := .loop (.seq (.seq c52_2 (.cond X8 .skip (.exit 0))) (.seq (.blk 1 (.seq c52_3 (.seq c52_4 (.cond X64 (.seq c52_5 .ret) .skip)))) c52_6))
def c52_8 : CC := .reg [
 O p2 (.mv (.c (.bool true))) 0] false
def F52 : CF := .mk 65 [p0] 7 (.seq c52_0 (.seq (.seq c52_1 (.blk 0 c52_7)) (.seq c52_8 .ret))) [.t p2] 3
/- daybook/daybookref07.Made -/
def c53_0 : CC := .reg [
 O p4 (.alloc 66 [I 0, (.str []), I 0, (.bool false), I 0, (.bool false), (.bool false)]) 0,
 O p5 (.mv (.c (.bool false))) 1] false
def c53_1 : CC := .reg [
 O p11 (.mv X0) 0,
 O p12 (.mv X1) 1,
 O p13 (.call (.c (.fn 90 [])) [X11, X12, (.c (I 1))]) 2,
 O p6 (.mv X13) 3] false
def c53_2 : CC := .reg [
 O p14 (.mv X0) 0,
 O p15 (.mv X1) 1,
 O p16 (.call (.c (.fn 90 [])) [X14, X15, (.c (I 2))]) 2,
 O p7 (.mv X16) 3] false
def c53_3 : CC := .reg [
 O p17 (.mv X1) 0,
 O p18 (.bin .lss .num X17 (.c (I 10))) 1,
 O p19 (.mv X18) 2,
 OG p20 p19 false (.mv X6) 3,
 OG p21 p19 false (.len 1 X20) 4,
 OG p22 p19 false (.bin .neq .num X21 (.c (I 1))) 5,
 O p23 (.pick X19 (.c (.bool true)) X22) 6,
 O p24 (.mv X23) 7,
 OG p25 p24 false (.mv X7) 8,
 OG p26 p24 false (.len 1 X25) 9,
 OG p27 p24 false (.bin .neq .num X26 (.c (I 1))) 10,
 O p28 (.pick X24 (.c (.bool true)) X27) 11,
 O p29 (.mv X28) 12,
 OG p30 p29 false (.mv X6) 13,
 OG p31 p29 false (.iaddr 3 X30 (.c (I 0))) 14,
 OG p32 p29 false (.faddr 0 X31) 15,
 OG p33 p29 false (.load 1 false X32) 16,
 OG p34 p29 false (.bin .neq .num X33 (.c (I 7))) 17,
 O p35 (.pick X29 (.c (.bool true)) X34) 18,
 O p36 (.mv X35) 19,
 OG p37 p36 false (.mv X7) 20,
 OG p38 p36 false (.iaddr 3 X37 (.c (I 0))) 21,
 OG p39 p36 false (.faddr 0 X38) 22,
 OG p40 p36 false (.load 1 false X39) 23,
 OG p41 p36 false (.bin .neq .num X40 (.c (I 1))) 24,
 O p42 (.pick X36 (.c (.bool true)) X41) 25,
 O p43 (.mv X42) 26,
 OG p44 p43 false (.mv X7) 27,
 OG p45 p43 false (.iaddr 3 X44 (.c (I 0))) 28,
 OG p46 p43 false (.faddr 1 X45) 29,
 OG p47 p43 false (.load 1 false X46) 30,
 OG p48 p43 false (.bin .lss .num X47 (.c (I 1))) 31,
 O p49 (.pick X43 (.c (.bool true)) X48) 32,
 O p50 (.mv X49) 33,
 OG p51 p50 false (.mv X7) 34,
 OG p52 p50 false (.iaddr 3 X51 (.c (I 0))) 35,
 OG p53 p50 false (.faddr 1 X52) 36,
 OG p54 p50 false (.load 1 false X53) 37,
 OG p55 p50 false (.bin .gtr .num X54 (.c (I 7))) 38,
 O p56 (.pick X50 (.c (.bool true)) X55) 39] false
def c53_4 : CC := .reg [
 O p57 (.build [I 0, (.str []), I 0, (.bool false), I 0, (.bool false), (.bool false)] []) 0,
 ON (.store 7 X4 X57) 1,
 O p5 (.mv (.c (.bool false))) 2] false
def c53_5 : CC := .reg [
 O p58 (.mv X1) 0,
 O p59 (.mv X6) 1,
 O p60 (.iaddr 3 X59 (.c (I 0))) 2,
 O p61 (.faddr 2 X60) 3,
 .mk (some p62) none (.load 1 false X61) [16, 17, 18, 19, 20, 21] 4,
 O p63 (.mv X7) 5,
 O p64 (.iaddr 3 X63 (.c (I 0))) 6,
 O p65 (.faddr 1 X64) 7,
 .mk (some p66) none (.load 1 false X65) [16, 17, 18, 19, 20, 21] 8,
 O p67 (.mv X0) 9,
 O p68 (.mv X1) 10,
 O p71 (.mv X0) 13,
 O p72 (.mv X1) 14,
 O p75 (.mv X0) 17,
 O p76 (.mv X1) 18,
 .mk (some p8) none (.alloc 66 [I 0, (.str []), I 0, (.bool false), I 0, (.bool false), (.bool false)]) [16, 17, 18, 19, 20, 21] 22,
 O p69 (.call (.c (.fn 90 [])) [X67, X68, (.c (I 3))]) 11,
 O p70 (.call (.c (.fn 91 [])) [X69]) 12,
 O p73 (.call (.c (.fn 90 [])) [X71, X72, (.c (I 5))]) 15,
 O p74 (.call (.c (.fn 91 [])) [X73]) 16,
 O p77 (.call (.c (.fn 90 [])) [X75, X76, (.c (I 6))]) 19,
 O p78 (.call (.c (.fn 91 [])) [X77]) 20,
 O p79 (.build [I 0, (.str []), I 0, (.bool false), I 0, (.bool false), (.bool false)] [(0, 1, X58), (1, 1, X62), (2, 1, X66), (3, 1, X70), (5, 1, X74), (6, 1, X78)]) 21,
 ON (.store 7 X8 X79) 23] true
def c53_6 : CC := .reg [
 O p80 (.mv X0) 0,
 O p81 (.mv X1) 1,
 O p82 (.call (.c (.fn 90 [])) [X80, X81, (.c (I 4))]) 2,
 O p9 (.mv X82) 3] false
def c53_7 : CC := .reg [
 O p10 (.mv (.c (I 0))) 0] false
def c53_8 : CC := .reg [
 O p83 (.mv X10) 0,
 O p84 (.mv X9) 1,
 O p85 (.len 1 X84) 2,
 O p86 (.bin .lss .num X83 X85) 3] false
def c53_9 : CC := .reg [
 O p89 (.mv X9) 0,
 O p90 (.mv X10) 1,
 O p91 (.iaddr 3 X89 X90) 2,
 O p92 (.faddr 0 X91) 3,
 O p93 (.load 1 false X92) 4,
 O p94 (.bin .eql .num X93 (.c (I 1))) 5,
 O p95 (.mv X94) 6,
 OG p96 p95 true (.mv X9) 7,
 OG p97 p95 true (.mv X10) 8,
 OG p98 p95 true (.iaddr 3 X96 X97) 9,
 OG p99 p95 true (.faddr 1 X98) 10,
 OG p100 p95 true (.load 1 false X99) 11,
 OG p101 p95 true (.bin .geq .num X100 (.c (I 1))) 12,
 O p102 (.pick X95 X101 (.c (.bool false))) 13,
 O p103 (.mv X102) 14,
 OG p104 p103 true (.mv X9) 15,
 OG p105 p103 true (.mv X10) 16,
 OG p106 p103 true (.iaddr 3 X104 X105) 17,
 OG p107 p103 true (.faddr 1 X106) 18,
 OG p108 p103 true (.load 1 false X107) 19,
 OG p109 p103 true (.bin .leq .num X108 (.c (I 2))) 20,
 O p110 (.pick X103 X109 (.c (.bool false))) 21,
 O p111 (.mv X110) 22,
 OG p112 p111 true (.mv X9) 23,
 OG p113 p111 true (.mv X10) 24,
 OG p114 p111 true (.iaddr 3 X112 X113) 25,
 OG p115 p111 true (.faddr 1 X114) 26,
 OG p116 p111 true (.load 1 false X115) 27,
 OG p117 p111 true (.faddr 4 X8) 28,
 OG p118 p111 true (.load 1 false X117) 29,
 OG p119 p111 true (.bin .gtr .num X116 X118) 30,
 O p120 (.pick X111 X119 (.c (.bool false))) 31] true
def c53_10 : CC := .reg [
 O p121 (.mv X9) 0,
 O p122 (.mv X10) 1,
 O p123 (.iaddr 3 X121 X122) 2,
 O p124 (.faddr 1 X123) 3,
 O p125 (.load 1 false X124) 4,
 O p126 (.faddr 4 X8) 5,
 ON (.store 1 X126 X125) 6] false
def c53_11 : CC := .reg [
 O p87 (.mv X10) 0,
 O p88 (.bin .add .num X87 (.c (I 1))) 1,
 O p10 (.mv X88) 2] false
def c53_12 : CC := .loop (.seq (.seq c53_8 (.cond X86 .skip (.exit 0))) (.seq (.blk 1 (.seq c53_9 (.cond X120 c53_10 .skip))) c53_11))
def c53_13 : CC := .reg [
 O p127 (.load 7 true X8) 0,
 ON (.store 7 X4 X127) 1,
 O p5 (.mv (.c (.bool true))) 2] false
def F53 : CF := .mk 128 [p0, p1] 8 (.seq c53_0 (.seq c53_1 (.seq c53_2 (.seq (.seq c53_3 (.cond X56 (.seq c53_4 .ret) .skip)) (.seq c53_5 (.seq c53_6 (.seq (.seq c53_7 (.blk 0 c53_12)) (.seq c53_13 .ret)))))))) [.cell p4 7 true, .t p5] 3
/- daybook/facts.Check -/
def c54_0 : CC := .reg [
 O p2 (.mv (.c (I 0))) 0] false
def c54_1 : CC := .reg [
 O p3 (.mv X0) 0,
 O p4 (.call (.c (.fn 92 [])) [X3]) 1,
 O p5 (.un .not X4) 2] false
def c54_2 : CC := .reg [
 O p2 (.mv (.c (I 60))) 0] false
def c54_3 : CC := .reg [
 O p2 (.mv (.c (I 0))) 0] false
def F54 : CF := .mk 6 [p0] 3 (.seq c54_0 (.seq (.seq c54_1 (.cond X5 (.seq c54_2 .ret) .skip)) (.seq c54_3 .ret))) [.t p2] 3
/- (*daybook/pull.puller).known -/
def c55_0 : CC := .reg [
 O p4 (.mv (.c (.bool false))) 0] false
def c55_1 : CC := .reg [
 O p9 (.mv X1) 0,
 O p10 (.len 1 X9) 1,
 O p11 (.mv (.c (I 0))) 2] false
def c55_2 : CC := .reg [
 O p12 (.bin .lss .num X11 X10) 0] false
def c55_3 : CC := .reg [
 O p13 (.iaddr 11 X9 X11) 0,
 O p14 (.load 11 true X13) 1,
 O p6 (.alloc 44 [(.bool false), (.str []), (.bool false), I 0, (.bool false), I 0, I 0, (.str []), (.bool false), .nils, I 0]) 2,
 ON (.store 11 X6 X14) 3] false
def c55_4 : CC := .reg [
 O p16 (.mv X0) 0,
 O p17 (.nilck X16) 1,
 O p18 (.faddr 1 X17) 2,
 O p19 (.load 1 false X18) 3,
 O p20 (.faddr 1 X6) 4,
 O p21 (.load 1 false X20) 5,
 O p22 (.lookup true (I 0) true X19 X21) 6,
 O p15 (.mv X22) 7,
 O p23 (.ext 0 X15) 8,
 O p24 (.ext 1 X15) 9,
 O p7 (.mv X23) 10,
 O p8 (.mv X24) 11] true
def c55_5 : CC := .reg [
 O p25 (.mv X8) 0,
 O p26 (.un .not X25) 1,
 O p27 (.mv X26) 2,
 OG p28 p27 true (.faddr 0 X6) 3,
 OG p29 p27 true (.load 1 false X28) 4,
 OG p30 p27 true (.un .not X29) 5,
 O p31 (.pick X27 X30 (.c (.bool false))) 6,
 O p32 (.mv X31) 7,
 OG p33 p32 false (.mv X0) 8,
 OG p34 p32 false (.faddr 9 X6) 9,
 OG p35 p32 false (.load 1 false X34) 10,
 OG p36 p32 false (.call (.c (.fn 55 [])) [X33, X35]) 11,
 OG p37 p32 false (.un .not X36) 12,
 O p38 (.pick X32 (.c (.bool true)) X37) 13] false
def c55_6 : CC := .reg [
 O p4 (.mv (.c (.bool false))) 0] false
def c55_7 : CC := .reg [
 O p39 (.bin .add .num X11 (.c (I 1))) 0,
 O p11 (.mv X39) 1] false
def c55_8 : CC := .loop (.seq c55_2 (.seq (.cond X12 .skip (.exit 0)) (.seq (.blk 1 (.seq c55_3 (.seq c55_4 (.seq c55_5 (.cond X38 (.seq c55_6 .ret) .skip))))) c55_7)))
def c55_9 : CC := .reg [
 O p4 (.mv (.c (.bool true))) 0] false
def F55 : CF := .mk 40 [p0, p1] 6 (.seq c55_0 (.seq (.seq c55_1 (.blk 0 c55_8)) (.seq c55_9 .ret))) [.t p4] 2
/- (*daybook/pull.puller).tree -/
def c56_0 : CC := .reg [
 O p8 (.mv (.c .nils)) 0] false
def c56_1 : CC := .reg [
 O p9 (.mv (.c .nils)) 0] false
def c56_2 : CC := .reg [
 O p13 (.mv X0) 0,
 O p14 (.mv X1) 1,
 O p15 (.mv X2) 2,
 O p16 (.call (.c (.fn 93 [])) [X13, X14, X15]) 3,
 O p17 (.len 1 X16) 4,
 O p18 (.mv (.c (I 0))) 5] false
def c56_3 : CC := .reg [
 O p19 (.bin .lss .num X18 X17) 0] false
def c56_4 : CC := .reg [
 O p20 (.iaddr 11 X16 X18) 0,
 O p21 (.load 11 true X20) 1,
 O p11 (.alloc 44 [(.bool false), (.str []), (.bool false), I 0, (.bool false), I 0, I 0, (.str []), (.bool false), .nils, I 0]) 2,
 ON (.store 11 X11 X21) 3] false
def c56_5 : CC := .reg [
 O p22 (.mv X0) 0,
 O p23 (.nilck X22) 1,
 O p24 (.faddr 4 X23) 2,
 O p25 (.load 1 false X24) 3] false
def c56_6 : CC := .reg [
 O p8 (.mv (.c .nils)) 0] false
def c56_7 : CC := .reg [
 O p26 (.mv X0) 0,
 O p27 (.mv X1) 1,
 O p28 (.load 11 true X11) 2,
 O p29 (.mv X2) 3,
 O p30 (.mv X3) 4,
 O p31 (.call (.c (.fn 94 [])) [X26, X27, X28, X29, X30]) 5,
 O p12 (.alloc 74 [(.str []), (.bool false), .nils]) 6,
 ON (.store 3 X12 X31) 7] false
def c56_8 : CC := .reg [
 O p32 (.faddr 2 X12) 0,
 O p33 (.load 1 false X32) 1,
 O p34 (.len 1 X33) 2,
 O p35 (.bin .gtr .num X34 (.c (I 0))) 3] false
def c56_9 : CC := .reg [
 O p36 (.mv X9) 0,
 O p37 (.load 3 true X12) 1,
 O p38 (.bslice 74 3 [(.str []), (.bool false), .nils] 1 [(0, X37)]) 2,
 O p39 (.append 74 3 X36 X38) 3,
 O p9 (.mv X39) 4] false
def c56_10 : CC := .reg [
 O p40 (.bin .add .num X18 (.c (I 1))) 0,
 O p18 (.mv X40) 1] false
def c56_11 : CC := .loop (.seq c56_3 (.seq (.cond X19 .skip (.exit 0)) (.seq (.blk 1 (.seq c56_4 (.seq (.seq c56_5 (.cond X25 (.seq c56_6 .ret) .skip)) (.seq c56_7 (.seq c56_8 (.cond X35 c56_9 .skip)))))) c56_10)))
def c56_12 : CC := .reg [
 O p41 (.mv X9) 0,
 O p42 (.call (.c (.fn 95 [])) [X41, (.c (.fn 96 []))]) 1] false
def c56_13 : CC := .reg [
 O p43 (.mv X9) 0,
 O p8 (.mv X43) 1] false
def F56 : CF := .mk 44 [p0, p1, p2, p3] 6 (.seq c56_0 (.seq c56_1 (.seq (.seq c56_2 (.blk 0 c56_11)) (.seq c56_12 (.seq c56_13 .ret))))) [.t p8] 2
/- daybook/daybooklaw20.fact -/
def c57_0 : CC := .reg [
 O p5 (.box 34 X2) 0,
 O p6 (.alloc 71 [I 0, I 0, I 0, I 0, (.str []), .nils]) 1] false
def c57_1 : CC := .reg [
 O p7 (.mv X0) 0,
 O p8 (.mv X1) 1,
 O p9 (.load 3 true X5) 2,
 O p10 (.build [I 0, I 0] [(0, 1, (.c (I (-9223372036854775808)))), (1, 1, (.c (I 9223372036854775807)))]) 3,
 O p11 (.bslice 166 2 [I 0, I 0] 1 [(0, X10)]) 4,
 O p12 (.build [I 0, I 0, I 0, I 0, (.str []), .nils] [(0, 1, X7), (1, 1, X8), (2, 3, X9), (5, 1, X11)]) 5,
 ON (.store 6 X6 X12) 6] false
def F57 : CF := .mk 13 [p0, p1, p2] 4 (.seq c57_0 (.seq c57_1 .ret)) [.cell p6 6 true] 3
/- daybook/daybooklaw20.number -/
def c58_0 : CC := .reg [
 O p2 (.alloc 34 [I 0, I 0, (.str [])]) 0] false
def c58_1 : CC := .reg [
 O p3 (.mv X0) 0,
 O p4 (.build [I 0, I 0, (.str [])] [(0, 1, (.c (I 1))), (1, 1, X3)]) 1,
 ON (.store 3 X2 X4) 2] false
def F58 : CF := .mk 5 [p0] 3 (.seq c58_0 (.seq c58_1 .ret)) [.cell p2 3 true] 3
/- daybook/daybooklaw20.ref -/
def c59_0 : CC := .reg [
 O p2 (.alloc 34 [I 0, I 0, (.str [])]) 0] false
def c59_1 : CC := .reg [
 O p3 (.mv X0) 0,
 O p4 (.build [I 0, I 0, (.str [])] [(0, 1, (.c (I 5))), (1, 1, X3)]) 1,
 ON (.store 3 X2 X4) 2] false
def F59 : CF := .mk 5 [p0] 3 (.seq c59_0 (.seq c59_1 .ret)) [.cell p2 3 true] 3
/- daybook/pull.may -/
def c60_0 : CC := .reg [
 O p6 (.mv (.c (.bool false))) 0] false
def c60_1 : CC := .reg [
 O p11 (.mv X1) 0,
 O p12 (.bin .gtr .num X11 (.c (I 20))) 1] false
def c60_2 : CC := .reg [
 O p6 (.mv (.c (.bool false))) 0] false
def c60_3 : CC := .reg [
 O p13 (.mv X0) 0,
 O p14 (.len 1 X13) 1,
 O p15 (.mv (.c (I 0))) 2] false
def c60_4 : CC := .reg [
 O p16 (.bin .lss .num X15 X14) 0] false
def c60_5 : CC := .reg [
 O p17 (.mv X15) 0,
 O p18 (.iaddr 3 X13 X15) 1,
 O p19 (.load 3 true X18) 2,
 O p8 (.alloc 74 [(.str []), (.bool false), .nils]) 3,
 O p7 (.mv X17) 4,
 ON (.store 3 X8 X19) 5] false
def c60_6 : CC := .reg [
 O p20 (.faddr 2 X8) 0,
 O p21 (.load 1 false X20) 1,
 O p22 (.len 1 X21) 2,
 O p23 (.bin .eql .num X22 (.c (I 0))) 3,
 O p24 (.mv X23) 4,
 OG p25 p24 false (.faddr 0 X8) 5,
 OG p26 p24 false (.load 1 false X25) 6,
 OG p27 p24 false (.build [I 0, I 0, (.str [])] [(0, 1, (.c (I 7))), (2, 1, X26)]) 7,
 OG p28 p24 false (.call (.c (.fn 97 [])) [X27]) 8,
 OG p29 p24 false (.bin .neq .num X28 (.c (I 0))) 9,
 O p30 (.pick X24 (.c (.bool true)) X29) 10,
 O p31 (.mv X30) 11,
 OG p32 p31 false (.mv X7) 12,
 OG p33 p31 false (.bin .gtr .num X32 (.c (I 0))) 13,
 OG p34 p31 false (.mv X33) 14,
 OG p35 p34 true (.mv X0) 15,
 OG p36 p34 true (.mv X7) 16,
 OG p37 p34 true (.bin .sub .num X36 (.c (I 1))) 17,
 OG p38 p34 true (.iaddr 3 X35 X37) 18,
 OG p39 p34 true (.load 3 true X38) 19,
 OG p40 p34 true (.load 3 true X8) 20,
 OG p41 p34 true (.call (.c (.fn 96 [])) [X39, X40]) 21,
 OG p42 p34 true (.bin .geq .num X41 (.c (I 0))) 22,
 OG p43 p31 false (.pick X34 X42 (.c (.bool false))) 23,
 O p44 (.pick X31 (.c (.bool true)) X43) 24] true
def c60_7 : CC := .reg [
 O p6 (.mv (.c (.bool false))) 0] false
def c60_8 : CC := .reg [
 O p45 (.faddr 2 X8) 0,
 O p46 (.load 1 false X45) 1,
 O p47 (.len 1 X46) 2,
 O p48 (.mv (.c (I 0))) 3] false
def c60_9 : CC := .reg [
 O p49 (.bin .lss .num X48 X47) 0] false
def c60_10 : CC := .reg [
 O p50 (.iaddr 5 X46 X48) 0,
 O p51 (.load 5 true X50) 1,
 O p10 (.alloc 76 [I 0, I 0, (.str []), (.bool false), .nils]) 2,
 ON (.store 5 X10 X51) 3] false
def c60_11 : CC := .reg [
 O p52 (.mv X2) 0,
 O p53 (.nilck X52) 1,
 O p54 (.load 1 false X53) 2,
 O p55 (.bin .add .num X54 (.c (I 1))) 3,
 O p56 (.nilck X52) 4,
 ON (.store 1 X56 X55) 5] false
def c60_12 : CC := .reg [
 O p57 (.mv X2) 0,
 O p58 (.nilck X57) 1,
 O p59 (.load 1 false X58) 2,
 O p60 (.bin .gtr .num X59 (.c (I 1000))) 3,
 O p61 (.mv X60) 4,
 OG p62 p61 false (.faddr 0 X10) 5,
 OG p63 p61 false (.load 3 true X62) 6,
 OG p64 p61 false (.call (.c (.fn 97 [])) [X63]) 7,
 OG p65 p61 false (.bin .neq .num X64 (.c (I 0))) 8,
 O p66 (.pick X61 (.c (.bool true)) X65) 9,
 O p67 (.mv X66) 10,
 OG p68 p67 false (.faddr 3 X10) 11,
 OG p69 p67 false (.load 1 false X68) 12,
 OG p70 p67 false (.un .not X69) 13,
 OG p71 p67 false (.mv X70) 14,
 OG p72 p71 true (.faddr 4 X10) 15,
 OG p73 p71 true (.load 1 false X72) 16,
 OG p74 p71 true (.len 1 X73) 17,
 OG p75 p71 true (.bin .gtr .num X74 (.c (I 0))) 18,
 OG p76 p67 false (.pick X71 X75 (.c (.bool false))) 19,
 O p77 (.pick X67 (.c (.bool true)) X76) 20,
 O p78 (.mv X77) 21,
 OG p79 p78 false (.faddr 3 X10) 22,
 OG p80 p78 false (.load 1 false X79) 23,
 OG p81 p78 false (.mv X80) 24,
 OG p82 p81 true (.faddr 0 X10) 25,
 OG p83 p81 true (.faddr 0 X82) 26,
 OG p84 p81 true (.load 1 false X83) 27,
 OG p85 p81 true (.bin .neq .num X84 (.c (I 5))) 28,
 OG p86 p81 true (.mv X85) 29,
 OG p87 p86 false (.faddr 4 X10) 30,
 OG p88 p86 false (.load 1 false X87) 31,
 OG p89 p86 false (.mv X1) 32,
 OG p90 p86 false (.bin .add .num X89 (.c (I 1))) 33,
 OG p91 p86 false (.mv X2) 34,
 OG p92 p86 false (.call (.c (.fn 60 [])) [X88, X90, X91]) 35,
 OG p93 p86 false (.un .not X92) 36,
 OG p94 p81 true (.pick X86 (.c (.bool true)) X93) 37,
 OG p95 p78 false (.pick X81 X94 (.c (.bool false))) 38,
 O p96 (.pick X78 (.c (.bool true)) X95) 39] false
def c60_13 : CC := .reg [
 O p6 (.mv (.c (.bool false))) 0] false
def c60_14 : CC := .reg [
 O p97 (.bin .add .num X48 (.c (I 1))) 0,
 O p48 (.mv X97) 1] false
def c60_15 : CC := .loop (.seq c60_9 (.seq (.cond X49 .skip (.exit 2)) (.seq (.blk 3 (.seq c60_10 (.seq c60_11 (.seq c60_12 (.cond X96 (.seq c60_13 .ret) .skip))))) c60_14)))
def c60_16 : CC := .reg [
 O p98 (.bin .add .num X15 (.c (I 1))) 0,
 O p15 (.mv X98) 1] false
def c60_17 : CC := .loop (.seq c60_4 (.seq (.cond X16 .skip (.exit 0)) (.seq (.blk 1 (.seq c60_5 (.seq (.seq c60_6 (.cond X44 (.seq c60_7 .ret) .skip)) (.seq c60_8 (.blk 2 c60_15))))) c60_16)))
def c60_18 : CC := .reg [
 O p6 (.mv (.c (.bool true))) 0] false
def F60 : CF := .mk 99 [p0, p1, p2] 7 (.seq c60_0 (.seq (.seq c60_1 (.cond X12 (.seq c60_2 .ret) .skip)) (.seq (.seq c60_3 (.blk 0 c60_17)) (.seq c60_18 .ret)))) [.t p6] 2
/- daybook/pull.node -/
def c61_0 : CC := .reg [
 O p2 (.alloc 36 [I 0, I 0, I 0, (.str []), (.str []), .nils, I 0, I 0]) 0] false
def c61_1 : CC := .reg [
 O p11 (.build [I 0, I 0, I 0, (.str []), (.str []), .nils, I 0, I 0] [(0, 1, (.c (I 5)))]) 0,
 O p3 (.alloc 36 [I 0, I 0, I 0, (.str []), (.str []), .nils, I 0, I 0]) 1,
 ON (.store 8 X3 X11) 2] false
def c61_2 : CC := .reg [
 O p12 (.mv X0) 0,
 O p13 (.len 1 X12) 1,
 O p14 (.mv (.c (I 0))) 2] false
def c61_3 : CC := .reg [
 O p15 (.bin .lss .num X14 X13) 0] false
def c61_4 : CC := .reg [
 O p16 (.iaddr 3 X12 X14) 0,
 O p17 (.load 3 true X16) 1,
 O p5 (.alloc 74 [(.str []), (.bool false), .nils]) 2,
 ON (.store 3 X5 X17) 3] false
def c61_5 : CC := .reg [
 O p18 (.faddr 0 X5) 0,
 O p19 (.load 1 false X18) 1,
 O p20 (.build [I 0, I 0, (.str [])] [(0, 1, (.c (I 7))), (2, 1, X19)]) 2,
 O p21 (.call (.c (.fn 98 [])) [X20]) 3,
 O p6 (.alloc 36 [I 0, I 0, I 0, (.str []), (.str []), .nils, I 0, I 0]) 4,
 ON (.store 8 X6 X21) 5] false
def c61_6 : CC := .reg [
 O p22 (.faddr 1 X5) 0,
 O p23 (.load 1 false X22) 1] false
def c61_7 : CC := .reg [
 O p24 (.load 8 true X6) 0,
 O p25 (.build [I 0, I 0, I 0, (.str []), (.str []), .nils, I 0, I 0] [(0, 1, (.c (I 2))), (4, 1, (.c (.str [98, 97, 99, 107])))]) 1,
 O p26 (.bslice 36 8 [I 0, I 0, I 0, (.str []), (.str []), .nils, I 0, I 0] 2 [(0, X24), (1, X25)]) 2,
 O p27 (.build [I 0, I 0, I 0, (.str []), (.str []), .nils, I 0, I 0] [(0, 1, (.c (I 3))), (5, 1, X26)]) 3,
 ON (.store 8 X6 X27) 4] false
def c61_8 : CC := .reg [
 O p28 (.build [I 0, I 0, I 0, (.str []), (.str []), .nils, I 0, I 0] [(0, 1, (.c (I 4)))]) 0,
 O p7 (.alloc 36 [I 0, I 0, I 0, (.str []), (.str []), .nils, I 0, I 0]) 1,
 ON (.store 8 X7 X28) 2] false
def c61_9 : CC := .reg [
 O p29 (.faddr 2 X5) 0,
 O p30 (.load 1 false X29) 1,
 O p31 (.len 1 X30) 2,
 O p32 (.mv (.c (I 0))) 3] false
def c61_10 : CC := .reg [
 O p33 (.bin .lss .num X32 X31) 0] false
def c61_11 : CC := .reg [
 O p34 (.iaddr 5 X30 X32) 0,
 O p35 (.load 5 true X34) 1,
 O p9 (.alloc 76 [I 0, I 0, (.str []), (.bool false), .nils]) 2,
 ON (.store 5 X9 X35) 3] false
def c61_12 : CC := .reg [
 O p36 (.faddr 0 X9) 0,
 O p37 (.load 3 true X36) 1,
 O p38 (.call (.c (.fn 98 [])) [X37]) 2,
 O p10 (.alloc 36 [I 0, I 0, I 0, (.str []), (.str []), .nils, I 0, I 0]) 3,
 ON (.store 8 X10 X38) 4] false
def c61_13 : CC := .reg [
 O p39 (.faddr 3 X9) 0,
 O p40 (.load 1 false X39) 1] false
def c61_14 : CC := .reg [
 .mk (some p41) none (.load 8 true X10) [3] 0,
 O p42 (.faddr 4 X9) 1,
 O p43 (.load 1 false X42) 2,
 O p44 (.call (.c (.fn 61 [])) [X43]) 3,
 O p45 (.bslice 36 8 [I 0, I 0, I 0, (.str []), (.str []), .nils, I 0, I 0] 2 [(0, X41), (1, X44)]) 4,
 O p46 (.build [I 0, I 0, I 0, (.str []), (.str []), .nils, I 0, I 0] [(0, 1, (.c (I 3))), (5, 1, X45)]) 5,
 ON (.store 8 X10 X46) 6] true
def c61_15 : CC := .reg [
 O p47 (.faddr 5 X7) 0,
 O p48 (.load 1 false X47) 1,
 O p49 (.load 8 true X10) 2,
 O p50 (.bslice 36 8 [I 0, I 0, I 0, (.str []), (.str []), .nils, I 0, I 0] 1 [(0, X49)]) 3,
 O p51 (.append 36 8 X48 X50) 4,
 O p52 (.faddr 5 X7) 5,
 ON (.store 1 X52 X51) 6] false
def c61_16 : CC := .reg [
 O p53 (.bin .add .num X32 (.c (I 1))) 0,
 O p32 (.mv X53) 1] false
def c61_17 : CC := .loop (.seq c61_10 (.seq (.cond X33 .skip (.exit 2)) (.seq (.blk 3 (.seq c61_11 (.seq c61_12 (.seq (.seq c61_13 (.cond X40 c61_14 .skip)) c61_15)))) c61_16)))
def c61_18 : CC := .reg [
 O p54 (.faddr 5 X3) 0,
 O p55 (.load 1 false X54) 1,
 O p56 (.load 8 true X6) 2,
 O p57 (.load 8 true X7) 3,
 O p58 (.bslice 36 8 [I 0, I 0, I 0, (.str []), (.str []), .nils, I 0, I 0] 2 [(0, X56), (1, X57)]) 4,
 O p59 (.append 36 8 X55 X58) 5,
 O p60 (.faddr 5 X3) 6,
 ON (.store 1 X60 X59) 7] false
def c61_19 : CC := .reg [
 O p61 (.bin .add .num X14 (.c (I 1))) 0,
 O p14 (.mv X61) 1] false
def c61_20 : CC := .loop (.seq c61_3 (.seq (.cond X15 .skip (.exit 0)) (.seq (.blk 1 (.seq c61_4 (.seq c61_5 (.seq (.seq c61_6 (.cond X23 c61_7 .skip)) (.seq c61_8 (.seq (.seq c61_9 (.blk 2 c61_17)) c61_18)))))) c61_19)))
def c61_21 : CC := .reg [
 O p62 (.load 8 true X3) 0,
 ON (.store 8 X2 X62) 1] false
def F61 : CF := .mk 63 [p0] 6 (.seq c61_0 (.seq c61_1 (.seq (.seq c61_2 (.blk 0 c61_20)) (.seq c61_21 .ret)))) [.cell p2 8 true] 1
/- daybook/pull.tree -/
def c62_0 : CC := .reg [
 O p2 (.box 36 X0) 0,
 O p3 (.box 3 X1) 1,
 O p4 (.alloc 58 [.nils]) 2,
 O p5 (.alloc 4 [(.bool false)]) 3] false
def c62_1 : CC := .reg [
 O p15 (.faddr 0 X2) 0,
 O p16 (.load 1 false X15) 1,
 O p17 (.bin .neq .num X16 (.c (I 5))) 2,
 O p18 (.mv X17) 3,
 OG p19 p18 false (.faddr 5 X2) 4,
 OG p20 p18 false (.load 1 false X19) 5,
 OG p21 p18 false (.len 1 X20) 6,
 OG p22 p18 false (.bin .rem .num X21 (.c (I 2))) 7,
 OG p23 p18 false (.bin .neq .num X22 (.c (I 0))) 8,
 O p24 (.pick X18 (.c (.bool true)) X23) 9,
 O p25 (.mv X24) 10,
 OG p26 p25 false (.load 1 false X3) 11,
 OG p27 p25 false (.bin .gtr .num X26 (.c (I 20))) 12,
 O p28 (.pick X25 (.c (.bool true)) X27) 13] false
def c62_2 : CC := .reg [
 ON (.store 1 X4 (.c .nils)) 0,
 ON (.store 1 X5 (.c (.bool false))) 1] false
def c62_3 : CC := .reg [
 O p6 (.alloc 58 [.nils]) 0] false
def c62_4 : CC := .reg [
 O p29 (.faddr 5 X2) 0,
 O p30 (.load 1 false X29) 1,
 O p31 (.call (.c (.fn 99 [])) [X30, (.c (I 2))]) 2] false
def c62_5 : CC := .reg [
 O p7 (.mv X32) 0] false
def c62_6 : CC := .reg [
 O p33 (.mv X7) 0,
 O p34 (.iaddr 8 X33 (.c (I 0))) 1,
 O p35 (.load 8 true X34) 2,
 O p36 (.mv X7) 3,
 O p37 (.iaddr 8 X36 (.c (I 1))) 4,
 .mk (some p38) none (.load 8 true X37) [8] 5,
 O p8 (.alloc 36 [I 0, I 0, I 0, (.str []), (.str []), .nils, I 0, I 0]) 6,
 O p9 (.alloc 36 [I 0, I 0, I 0, (.str []), (.str []), .nils, I 0, I 0]) 7,
 ON (.store 8 X8 X35) 8,
 ON (.store 8 X9 X38) 9] true
def c62_7 : CC := .reg [
 O p39 (.faddr 1 X8) 0,
 O p40 (.faddr 2 X39) 1,
 O p41 (.load 1 false X40) 2,
 O p42 (.build [(.str []), (.bool false), .nils] [(0, 1, X41)]) 3,
 O p10 (.alloc 74 [(.str []), (.bool false), .nils]) 4,
 ON (.store 3 X10 X42) 5] false
def c62_8 : CC := .reg [
 O p43 (.faddr 0 X8) 0,
 O p44 (.load 1 false X43) 1,
 O p45 (.bin .eql .num X44 (.c (I 3))) 2,
 O p46 (.mv X45) 3,
 OG p47 p46 true (.faddr 5 X8) 4,
 OG p48 p46 true (.load 1 false X47) 5,
 OG p49 p46 true (.len 1 X48) 6,
 OG p50 p46 true (.bin .eql .num X49 (.c (I 2))) 7,
 O p51 (.pick X46 X50 (.c (.bool false))) 8] false
def c62_9 : CC := .reg [
 O p52 (.faddr 5 X8) 0,
 O p53 (.load 1 false X52) 1,
 O p54 (.iaddr 8 X53 (.c (I 0))) 2,
 O p55 (.faddr 1 X54) 3,
 O p56 (.faddr 2 X55) 4,
 O p57 (.load 1 false X56) 5,
 O p58 (.build [(.str []), (.bool false), .nils] [(0, 1, X57), (1, 1, (.c (.bool true)))]) 6,
 ON (.store 3 X10 X58) 7] false
def c62_10 : CC := .reg [
 O p59 (.faddr 5 X9) 0,
 O p60 (.load 1 false X59) 1,
 O p61 (.len 1 X60) 2,
 O p62 (.mv (.c (I 0))) 3] false
def c62_11 : CC := .reg [
 O p63 (.bin .lss .num X62 X61) 0] false
def c62_12 : CC := .reg [
 O p64 (.iaddr 8 X60 X62) 0,
 O p65 (.load 8 true X64) 1,
 O p12 (.alloc 36 [I 0, I 0, I 0, (.str []), (.str []), .nils, I 0, I 0]) 2,
 ON (.store 8 X12 X65) 3] false
def c62_13 : CC := .reg [
 O p67 (.load 8 true X12) 0,
 O p68 (.load 1 false X3) 1,
 O p69 (.call (.c (.fn 100 [])) [X67, X68]) 2,
 O p66 (.mv X69) 3,
 O p70 (.ext 0 X66) 4,
 O p71 (.ext 1 X66) 5,
 O p13 (.alloc 76 [I 0, I 0, (.str []), (.bool false), .nils]) 6,
 ON (.store 5 X13 X70) 7,
 O p14 (.mv X71) 8] false
def c62_14 : CC := .reg [
 O p72 (.mv X14) 0,
 O p73 (.un .not X72) 1] false
def c62_15 : CC := .reg [
 ON (.store 1 X4 (.c .nils)) 0,
 ON (.store 1 X5 (.c (.bool false))) 1] false
def c62_16 : CC := .reg [
 O p74 (.faddr 2 X10) 0,
 O p75 (.load 1 false X74) 1,
 O p76 (.load 5 true X13) 2,
 O p77 (.bslice 76 5 [I 0, I 0, (.str []), (.bool false), .nils] 1 [(0, X76)]) 3,
 O p78 (.append 76 5 X75 X77) 4,
 O p79 (.faddr 2 X10) 5,
 ON (.store 1 X79 X78) 6] false
def c62_17 : CC := .reg [
 O p80 (.bin .add .num X62 (.c (I 1))) 0,
 O p62 (.mv X80) 1] false
def c62_18 : CC := .loop (.seq c62_11 (.seq (.cond X63 .skip (.exit 2)) (.seq (.blk 3 (.seq c62_12 (.seq c62_13 (.seq (.seq c62_14 (.cond X73 (.seq c62_15 .ret) .skip)) c62_16)))) c62_17)))
def c62_19 : CC := .reg [
 O p81 (.load 1 false X6) 0,
 O p82 (.load 3 true X10) 1,
 O p83 (.bslice 74 3 [(.str []), (.bool false), .nils] 1 [(0, X82)]) 2,
 O p84 (.append 74 3 X81 X83) 3,
 ON (.store 1 X6 X84) 4] false
def c62_20 : CC := .rng X31 [p32] c62_5 (.blk 1 (.seq c62_6 (.seq c62_7 (.seq (.seq c62_8 (.cond X51 c62_9 .skip)) (.seq (.seq c62_10 (.blk 2 c62_18)) c62_19)))))
def c62_21 : CC := .reg [
 O p85 (.load 1 false X6) 0,
 ON (.store 1 X4 X85) 1,
 ON (.store 1 X5 (.c (.bool true))) 2] false
def F62 : CF := .mk 86 [p0, p1] 7 (.seq c62_0 (.seq (.seq c62_1 (.cond X28 (.seq c62_2 .ret) .skip)) (.seq c62_3 (.seq (.seq c62_4 (.blk 0 c62_20)) (.seq c62_21 .ret))))) [.cell p4 1 false, .cell p5 1 false] 1
/- daybook/pull.same -/
def c63_0 : CC := .reg [
 O p2 (.box 36 X0) 0,
 O p3 (.box 36 X1) 1,
 O p4 (.mv (.c (.bool false))) 2] false
def c63_1 : CC := .reg [
 O p5 (.faddr 0 X2) 0,
 O p6 (.load 1 false X5) 1,
 O p7 (.faddr 0 X3) 2,
 O p8 (.load 1 false X7) 3,
 O p9 (.bin .eql .num X6 X8) 4,
 O p10 (.mv X9) 5,
 OG p11 p10 true (.faddr 1 X2) 6,
 OG p12 p10 true (.load 3 true X11) 7,
 OG p13 p10 true (.faddr 1 X3) 8,
 OG p14 p10 true (.load 3 true X13) 9,
 OG p15 p10 true (.bin .eql (.cells [.i, .i, .s]) X12 X14) 10,
 O p16 (.pick X10 X15 (.c (.bool false))) 11,
 O p17 (.mv X16) 12,
 OG p18 p17 true (.faddr 4 X2) 13,
 OG p19 p17 true (.load 1 false X18) 14,
 OG p20 p17 true (.faddr 4 X3) 15,
 OG p21 p17 true (.load 1 false X20) 16,
 OG p22 p17 true (.bin .eql .num X19 X21) 17,
 O p23 (.pick X17 X22 (.c (.bool false))) 18,
 O p24 (.mv X23) 19,
 OG p25 p24 true (.faddr 5 X2) 20,
 OG p26 p24 true (.load 1 false X25) 21,
 OG p27 p24 true (.faddr 5 X3) 22,
 OG p28 p24 true (.load 1 false X27) 23,
 OG p29 p24 true (.call (.c (.fn 78 [])) [X26, X28, (.c (.fn 63 []))]) 24,
 O p30 (.pick X24 X29 (.c (.bool false))) 25,
 O p4 (.mv X30) 26] false
def F63 : CF := .mk 31 [p0, p1] 5 (.seq c63_0 (.seq c63_1 .ret)) [.t p4] 1
/- daybook/text.tokens -/
def c64_0 : CC := .reg [
 O p1 (.box 9 X0) 0,
 O p2 (.mv (.c .nilf)) 1] false
def c64_1 : CC := .reg [
 O p3 (.mkfn 101 [X1]) 0,
 O p2 (.mv X3) 1] false
def F64 : CF := .mk 4 [p0] 3 (.seq c64_0 (.seq c64_1 .ret)) [.t p2] 0
/- daybook/value.Parse -/
def c67_0 : CC := .reg [
 O p2 (.alloc 34 [I 0, I 0, (.str [])]) 0,
 O p3 (.mv (.c (I 0))) 1] false
def c67_1 : CC := .reg [
 O p7 (.mv X0) 0,
 O p8 (.call (.c (.fn 106 [])) [X7]) 1,
 O p6 (.mv X8) 2,
 O p9 (.ext 0 X6) 3,
 O p10 (.ext 1 X6) 4,
 O p4 (.alloc 34 [I 0, I 0, (.str [])]) 5,
 ON (.store 3 X4 X9) 6,
 O p5 (.mv X10) 7] false
def c67_2 : CC := .reg [
 O p11 (.mv X5) 0,
 O p12 (.un .not X11) 1,
 O p13 (.mv X12) 2,
 OG p14 p13 false (.load 3 true X4) 3,
 OG p15 p13 false (.call (.c (.fn 107 [])) [X14]) 4,
 OG p16 p13 false (.un .not X15) 5,
 O p17 (.pick X13 (.c (.bool true)) X16) 6] false
def c67_3 : CC := .reg [
 O p18 (.build [I 0, I 0, (.str [])] []) 0,
 ON (.store 3 X2 X18) 1,
 O p3 (.mv (.c (I 11))) 2] false
def c67_4 : CC := .reg [
 O p19 (.load 3 true X4) 0,
 ON (.store 3 X2 X19) 1,
 O p3 (.mv (.c (I 0))) 2] false
def F67 : CF := .mk 20 [p0] 5 (.seq c67_0 (.seq c67_1 (.seq (.seq c67_2 (.cond X17 (.seq c67_3 .ret) .skip)) (.seq c67_4 .ret)))) [.cell p2 3 true, .t p3] 3
/- daybook/text.Named -/
def c68_0 : CC := .reg [
 O p1 (.box 9 X0) 0,
 O p2 (.mv (.c (.bool false))) 1] false
def c68_1 : CC := .reg [
 O p8 (.load 1 false X1) 0,
 O p9 (.call (.c (.fn 67 [])) [X8]) 1,
 O p7 (.mv X9) 2,
 O p10 (.ext 0 X7) 3,
 O p11 (.ext 1 X7) 4,
 O p3 (.alloc 34 [I 0, I 0, (.str [])]) 5,
 ON (.store 3 X3 X10) 6,
 O p4 (.mv X11) 7] false
def c68_2 : CC := .reg [
 O p12 (.load 1 false X1) 0,
 O p13 (.len 0 X12) 1,
 O p14 (.bin .lss .num X13 (.c (I 1))) 2,
 O p15 (.mv X14) 3,
 OG p16 p15 false (.load 1 false X1) 4,
 OG p17 p15 false (.len 0 X16) 5,
 OG p18 p15 false (.bin .gtr .num X17 (.c (I 64))) 6,
 O p19 (.pick X15 (.c (.bool true)) X18) 7,
 O p20 (.mv X19) 8,
 OG p21 p20 false (.mv X4) 9,
 OG p22 p20 false (.bin .eql .num X21 (.c (I 0))) 10,
 O p23 (.pick X20 (.c (.bool true)) X22) 11] false
def c68_3 : CC := .reg [
 O p2 (.mv (.c (.bool false))) 0] false
def c68_4 : CC := .reg [
 O p24 (.mkfn 108 [X1]) 0,
 O p5 (.mv X24) 1] false
def c68_5 : CC := .reg [
 O p25 (.load 1 false X1) 0,
 O p26 (.len 0 X25) 1,
 O p27 (.mv (.c (I 0))) 2] false
def c68_6 : CC := .reg [
 O p28 (.bin .lss .num X27 X26) 0] false
def c68_7 : CC := .reg [
 O p29 (.mv X27) 0,
 O p6 (.mv X29) 1] false
def c68_8 : CC := .reg [
 O p30 (.load 1 false X1) 0,
 O p31 (.mv X6) 1,
 O p32 (.index X30 X31) 2,
 O p33 (.bin .lss .num X32 (.c (.int .u8 97))) 3,
 O p34 (.mv X33) 4,
 OG p35 p34 false (.load 1 false X1) 5,
 OG p36 p34 false (.mv X6) 6,
 OG p37 p34 false (.index X35 X36) 7,
 OG p38 p34 false (.bin .gtr .num X37 (.c (.int .u8 122))) 8,
 O p39 (.pick X34 (.c (.bool true)) X38) 9,
 O p40 (.mv X39) 10,
 OG p41 p40 true (.mv X5) 11,
 OG p42 p40 true (.mv X6) 12,
 OG p43 p40 true (.call X41 [X42]) 13,
 OG p44 p40 true (.un .not X43) 14,
 O p45 (.pick X40 X44 (.c (.bool false))) 15,
 O p46 (.mv X45) 16,
 OG p47 p46 true (.load 1 false X1) 17,
 OG p48 p46 true (.mv X6) 18,
 OG p49 p46 true (.index X47 X48) 19,
 OG p50 p46 true (.call (.c (.fn 103 [])) [(.c (.str [63, 95, 43, 45, 42, 47, 60, 62, 61, 33, 46, 37, 38])), X49]) 20,
 OG p51 p46 true (.bin .lss .num X50 (.c (I 0))) 21,
 O p52 (.pick X46 X51 (.c (.bool false))) 22] false
def c68_9 : CC := .reg [
 O p2 (.mv (.c (.bool false))) 0] false
def c68_10 : CC := .reg [
 O p53 (.bin .add .num X27 (.c (I 1))) 0,
 O p27 (.mv X53) 1] false
def c68_11 : CC := .loop (.seq c68_6 (.seq (.cond X28 .skip (.exit 0)) (.seq (.blk 1 (.seq c68_7 (.seq c68_8 (.cond X52 (.seq c68_9 .ret) .skip)))) c68_10)))
def c68_12 : CC := .reg [
 O p54 (.mv X5) 0,
 O p55 (.call X54 [(.c (I 0))]) 1,
 O p56 (.un .not X55) 2,
 O p57 (.mv X56) 3,
 OG p58 p57 true (.load 1 false X1) 4,
 OG p59 p57 true (.index X58 (.c (I 0))) 5,
 OG p60 p57 true (.call (.c (.fn 103 [])) [(.c (.str [43, 45, 33])), X59]) 6,
 OG p61 p57 true (.bin .lss .num X60 (.c (I 0))) 7,
 OG p62 p57 true (.mv X61) 8,
 OG p63 p62 false (.mv X5) 9,
 OG p64 p62 false (.call X63 [(.c (I 1))]) 10,
 OG p65 p62 false (.un .not X64) 11,
 OG p66 p57 true (.pick X62 (.c (.bool true)) X65) 12,
 O p67 (.pick X57 X66 (.c (.bool false))) 13,
 O p2 (.mv X67) 14] false
def F68 : CF := .mk 68 [p0] 7 (.seq c68_0 (.seq (.seq c68_1 (.seq c68_2 (.cond X23 (.seq c68_3 .ret) .skip))) (.seq c68_4 (.seq (.seq c68_5 (.blk 0 c68_11)) (.seq c68_12 .ret))))) [.t p2] 3
/- daybook/shape.item -/
def c72_0 : CC := .reg [
 O p2 (.box 36 X0) 0,
 O p4 (.alloc 44 [(.bool false), (.str []), (.bool false), I 0, (.bool false), I 0, I 0, (.str []), (.bool false), .nils, I 0]) 1,
 O p5 (.mv (.c (.bool false))) 2] false
def c72_1 : CC := .reg [
 O p9 (.load 8 true X2) 0,
 O p10 (.call (.c (.fn 112 [])) [X9, (.c (.str [42]))]) 1] false
def c72_2 : CC := .reg [
 O p11 (.build [(.bool false), (.str []), (.bool false), I 0, (.bool false), I 0, I 0, (.str []), (.bool false), .nils, I 0] [(0, 1, (.c (.bool true)))]) 0,
 ON (.store 11 X4 X11) 1,
 O p5 (.mv (.c (.bool true))) 2] false
def c72_3 : CC := .reg [
 O p12 (.faddr 0 X2) 0,
 O p13 (.load 1 false X12) 1,
 O p14 (.bin .neq .num X13 (.c (I 5))) 2] false
def c72_4 : CC := .reg [
 O p15 (.load 8 true X2) 0,
 O p16 (.call (.c (.fn 113 [])) [X15]) 1,
 O p17 (.ext 0 X16) 2,
 O p18 (.ext 1 X16) 3,
 ON (.store 11 X4 X17) 4,
 O p5 (.mv X18) 5] false
def c72_5 : CC := .reg [
 O p19 (.faddr 5 X2) 0,
 O p20 (.load 1 false X19) 1,
 O p21 (.len 1 X20) 2,
 O p22 (.bin .neq .num X21 (.c (I 2))) 3] false
def c72_6 : CC := .reg [
 O p23 (.build [(.bool false), (.str []), (.bool false), I 0, (.bool false), I 0, I 0, (.str []), (.bool false), .nils, I 0] []) 0,
 ON (.store 11 X4 X23) 1,
 O p5 (.mv (.c (.bool false))) 2] false
def c72_7 : CC := .reg [
 O p25 (.faddr 5 X2) 0,
 O p26 (.load 1 false X25) 1,
 O p27 (.iaddr 8 X26 (.c (I 0))) 2,
 O p28 (.load 8 true X27) 3,
 O p29 (.call (.c (.fn 113 [])) [X28]) 4,
 O p24 (.mv X29) 5,
 O p30 (.ext 0 X24) 6,
 O p31 (.ext 1 X24) 7,
 O p6 (.alloc 44 [(.bool false), (.str []), (.bool false), I 0, (.bool false), I 0, I 0, (.str []), (.bool false), .nils, I 0]) 8,
 ON (.store 11 X6 X30) 9,
 O p7 (.mv X31) 10] false
def c72_8 : CC := .reg [
 O p32 (.faddr 5 X2) 0,
 O p33 (.load 1 false X32) 1,
 O p34 (.iaddr 8 X33 (.c (I 1))) 2,
 O p35 (.load 8 true X34) 3,
 O p8 (.alloc 36 [I 0, I 0, I 0, (.str []), (.str []), .nils, I 0, I 0]) 4,
 ON (.store 8 X8 X35) 5] false
def c72_9 : CC := .reg [
 O p43 (.mv X7) 0,
 O p44 (.un .not X43) 1,
 O p42 (.mv X44) 2] false
def c72_10 : CC := .reg [
 O p45 (.load 11 true X6) 0,
 ON (.store 11 X4 X45) 1,
 O p5 (.mv (.c (.bool false))) 2] false
def c72_11 : CC := .reg [
 O p47 (.faddr 0 X8) 0,
 O p48 (.load 1 false X47) 1,
 O p49 (.bin .eql .num X48 (.c (I 4))) 2,
 O p46 (.mv X49) 3] false
def c72_12 : CC := .reg [
 O p50 (.faddr 8 X6) 0,
 ON (.store 1 X50 (.c (.bool true))) 1] false
def c72_13 : CC := .reg [
 O p52 (.load 8 true X8) 0,
 O p53 (.mv X1) 1,
 O p54 (.bin .add .num X53 (.c (I 1))) 2,
 O p55 (.call (.c (.fn 41 [])) [X52, X54]) 3,
 O p51 (.mv X55) 4,
 O p56 (.ext 0 X51) 5,
 O p57 (.ext 1 X51) 6,
 O p58 (.faddr 9 X6) 7,
 ON (.store 1 X58 X56) 8,
 O p7 (.mv X57) 9] false
def c72_14 : CC := .reg [
 O p60 (.load 8 true X8) 0,
 O p61 (.call (.c (.fn 112 [])) [X60, (.c (.str [46, 46, 46]))]) 1,
 O p59 (.mv X61) 2] false
def c72_15 : CC := .reg [
 O p62 (.faddr 10 X6) 0,
 ON (.store 1 X62 (.c (I (-1)))) 1] false
def c72_16 : CC := .reg [
 O p37 (.load 8 true X8) 0,
 O p38 (.call (.c (.fn 114 [])) [X37]) 1,
 O p36 (.mv X38) 2,
 O p39 (.ext 0 X36) 3,
 O p40 (.ext 1 X36) 4,
 O p41 (.faddr 10 X6) 5,
 ON (.store 1 X41 X39) 6,
 O p7 (.mv X40) 7] false
def c72_17 : CC := .reg [
 O p63 (.load 11 true X6) 0,
 O p64 (.mv X7) 1,
 ON (.store 11 X4 X63) 2,
 O p5 (.mv X64) 3] false
def F72 : CF := .mk 65 [p0, p1] 7 (.seq c72_0 (.seq (.seq c72_1 (.cond X10 (.seq c72_2 .ret) .skip)) (.seq (.seq c72_3 (.cond X14 (.seq c72_4 .ret) .skip)) (.seq (.seq c72_5 (.cond X22 (.seq c72_6 .ret) .skip)) (.seq c72_7 (.seq c72_8 (.seq (.blk 0 (.seq c72_9 (.cond X42 (.seq c72_10 .ret) (.seq c72_11 (.cond X46 (.seq c72_12 c72_13) (.seq c72_14 (.cond X59 c72_15 c72_16))))))) (.seq c72_17 .ret)))))))) [.cell p4 11 true, .t p5] 3
/- daybook/shape.lists -/
def c73_0 : CC := .reg [
 O p2 (.box 22 X0) 0,
 O p3 (.box 3 X1) 1,
 O p4 (.mv (.c .nilf)) 2] false
def c73_1 : CC := .reg [
 O p5 (.mkfn 115 [X3, X2]) 0,
 O p4 (.mv X5) 1] false
def F73 : CF := .mk 6 [p0, p1] 3 (.seq c73_0 (.seq c73_1 .ret)) [.t p4] 0
/- daybook/shape.one -/
def c74_0 : CC := .reg [
 O p1 (.box 44 X0) 0,
 O p2 (.mv (.c (.bool false))) 1] false
def c74_1 : CC := .reg [
 O p6 (.faddr 0 X1) 0,
 O p7 (.load 1 false X6) 1] false
def c74_2 : CC := .reg [
 O p8 (.faddr 1 X1) 0,
 O p9 (.load 1 false X8) 1,
 O p10 (.bin .eql .num X9 (.c (.str []))) 2,
 O p11 (.mv X10) 3,
 OG p12 p11 true (.faddr 2 X1) 4,
 OG p13 p11 true (.load 1 false X12) 5,
 OG p14 p11 true (.un .not X13) 6,
 O p15 (.pick X11 X14 (.c (.bool false))) 7,
 O p16 (.mv X15) 8,
 OG p17 p16 true (.faddr 3 X1) 9,
 OG p18 p16 true (.load 1 false X17) 10,
 OG p19 p16 true (.bin .eql .num X18 (.c (I 0))) 11,
 O p20 (.pick X16 X19 (.c (.bool false))) 12,
 O p21 (.mv X20) 13,
 OG p22 p21 true (.faddr 4 X1) 14,
 OG p23 p21 true (.load 1 false X22) 15,
 OG p24 p21 true (.un .not X23) 16,
 O p25 (.pick X21 X24 (.c (.bool false))) 17,
 O p26 (.mv X25) 18,
 OG p27 p26 true (.faddr 5 X1) 19,
 OG p28 p26 true (.load 3 true X27) 20,
 OG p29 p26 true (.build [I 0, I 0, (.str [])] []) 21,
 OG p30 p26 true (.bin .eql (.cells [.i, .i, .s]) X28 X29) 22,
 O p31 (.pick X26 X30 (.c (.bool false))) 23,
 O p32 (.mv X31) 24,
 OG p33 p32 true (.faddr 8 X1) 25,
 OG p34 p32 true (.load 1 false X33) 26,
 OG p35 p32 true (.un .not X34) 27,
 O p36 (.pick X32 X35 (.c (.bool false))) 28,
 O p37 (.mv X36) 29,
 OG p38 p37 true (.faddr 9 X1) 30,
 OG p39 p37 true (.load 1 false X38) 31,
 OG p40 p37 true (.len 1 X39) 32,
 OG p41 p37 true (.bin .eql .num X40 (.c (I 0))) 33,
 O p42 (.pick X37 X41 (.c (.bool false))) 34,
 O p43 (.mv X42) 35,
 OG p44 p43 true (.faddr 10 X1) 36,
 OG p45 p43 true (.load 1 false X44) 37,
 OG p46 p43 true (.bin .eql .num X45 (.c (I 0))) 38,
 O p47 (.pick X43 X46 (.c (.bool false))) 39,
 O p2 (.mv X47) 40] false
def c74_3 : CC := .reg [
 O p3 (.mv (.c (I 0))) 0] false
def c74_4 : CC := .reg [
 O p48 (.faddr 4 X1) 0,
 O p49 (.load 1 false X48) 1,
 O p50 (.faddr 8 X1) 2,
 O p51 (.load 1 false X50) 3,
 O p52 (.faddr 10 X1) 4,
 O p53 (.load 1 false X52) 5,
 O p54 (.bin .neq .num X53 (.c (I 0))) 6,
 O p55 (.bslice 4 1 [(.bool false)] 3 [(0, X49), (1, X51), (2, X54)]) 7,
 O p56 (.len 1 X55) 8,
 O p57 (.mv (.c (I 0))) 9] false
def c74_5 : CC := .reg [
 O p58 (.bin .lss .num X57 X56) 0] false
def c74_6 : CC := .reg [
 O p59 (.iaddr 1 X55 X57) 0,
 O p60 (.load 1 false X59) 1,
 O p5 (.mv X60) 2] false
def c74_7 : CC := .reg [
 O p61 (.mv X5) 0] false
def c74_8 : CC := .reg [
 O p62 (.mv X3) 0,
 O p63 (.bin .add .num X62 (.c (I 1))) 1,
 O p3 (.mv X63) 2] false
def c74_9 : CC := .reg [
 O p64 (.bin .add .num X57 (.c (I 1))) 0,
 O p57 (.mv X64) 1] false
def c74_10 : CC := .loop (.seq c74_5 (.seq (.cond X58 .skip (.exit 0)) (.seq (.blk 1 (.seq c74_6 (.seq c74_7 (.cond X61 c74_8 .skip)))) c74_9)))
def c74_11 : CC := .reg [
 O p66 (.mv X3) 0,
 O p67 (.bin .gtr .num X66 (.c (I 1))) 1,
 O p65 (.mv X67) 2] false
def c74_12 : CC := .reg [
 O p68 (.faddr 1 X1) 0,
 O p69 (.load 1 false X68) 1,
 O p70 (.call (.c (.fn 116 [])) [X69]) 2,
 O p71 (.call (.c (.fn 97 [])) [X70]) 3,
 O p72 (.bin .neq .num X71 (.c (I 0))) 4,
 O p65 (.mv X72) 5] false
def c74_13 : CC := .reg [
 O p73 (.faddr 3 X1) 0,
 O p74 (.load 1 false X73) 1,
 O p75 (.bin .lss .num X74 (.c (I 0))) 2,
 O p65 (.mv X75) 3] false
def c74_14 : CC := .reg [
 O p76 (.faddr 3 X1) 0,
 O p77 (.load 1 false X76) 1,
 O p78 (.bin .gtr .num X77 (.c (I 1000))) 2,
 O p65 (.mv X78) 3] false
def c74_15 : CC := .reg [
 O p79 (.faddr 10 X1) 0,
 O p80 (.load 1 false X79) 1,
 O p81 (.bin .lss .num X80 (.c (I (-1)))) 2,
 O p65 (.mv X81) 3] false
def c74_16 : CC := .reg [
 O p82 (.faddr 10 X1) 0,
 O p83 (.load 1 false X82) 1,
 O p84 (.bin .gtr .num X83 (.c (I 100))) 2,
 O p65 (.mv X84) 3] false
def c74_17 : CC := .reg [
 O p85 (.faddr 8 X1) 0,
 O p86 (.load 1 false X85) 1,
 O p87 (.un .not X86) 2,
 O p88 (.mv X87) 3,
 OG p89 p88 true (.faddr 9 X1) 4,
 OG p90 p88 true (.load 1 false X89) 5,
 OG p91 p88 true (.len 1 X90) 6,
 OG p92 p88 true (.bin .gtr .num X91 (.c (I 0))) 7,
 O p93 (.pick X88 X92 (.c (.bool false))) 8,
 O p65 (.mv X93) 9] false
def c74_18 : CC := .reg [
 O p2 (.mv (.c (.bool false))) 0] false
def c74_19 : CC := .reg [
 O p95 (.faddr 4 X1) 0,
 O p96 (.load 1 false X95) 1,
 O p94 (.mv X96) 2] false
def c74_20 : CC := .reg [
 O p97 (.faddr 5 X1) 0,
 O p98 (.load 3 true X97) 1,
 O p99 (.call (.c (.fn 97 [])) [X98]) 2,
 O p100 (.bin .eql .num X99 (.c (I 0))) 3,
 O p2 (.mv X100) 4] false
def c74_21 : CC := .reg [
 O p101 (.faddr 5 X1) 0,
 O p102 (.load 3 true X101) 1,
 O p103 (.build [I 0, I 0, (.str [])] []) 2,
 O p104 (.bin .eql (.cells [.i, .i, .s]) X102 X103) 3,
 O p2 (.mv X104) 4] false
def F74 : CF := .mk 105 [p0] 7 (.seq c74_0 (.seq (.seq c74_1 (.cond X7 (.seq c74_2 .ret) .skip)) (.seq c74_3 (.seq (.seq c74_4 (.blk 0 c74_10)) (.seq (.blk 2 (.seq (.seq c74_11 (.cond X65 .skip (.seq c74_12 (.cond X65 .skip (.seq c74_13 (.cond X65 .skip (.seq c74_14 (.cond X65 .skip (.seq c74_15 (.cond X65 .skip (.seq c74_16 (.cond X65 .skip c74_17)))))))))))) (.cond X65 (.seq c74_18 .ret) (.seq c74_19 (.cond X94 (.seq c74_20 .ret) .skip))))) (.seq c74_21 .ret)))))) [.t p2] 3
/- slices.ContainsFunc[[]daybook/api.Item,daybook/api.Item] -/
def c75_0 : CC := .reg [
 O p4 (.mv (.c (.bool false))) 0] false
def c75_1 : CC := .reg [
 O p5 (.mv X0) 0,
 O p6 (.mv X1) 1,
 O p7 (.call (.c (.fn 117 [])) [X5, X6]) 2,
 O p8 (.bin .geq .num X7 (.c (I 0))) 3,
 O p4 (.mv X8) 4] false
def F75 : CF := .mk 9 [p0, p1] 4 (.seq c75_0 (.seq c75_1 .ret)) [.t p4] 2
/- daybook/shape.may$1 -/
def c76_0 : CC := .reg [
 O p2 (.box 44 X0) 0,
 O p3 (.mv (.c (.bool false))) 1] false
def c76_1 : CC := .reg [
 O p4 (.load 11 true X1) 0,
 O p5 (.load 11 true X2) 1,
 O p6 (.call (.c (.fn 77 [])) [X4, X5]) 2,
 O p3 (.mv X6) 3] false
def F76 : CF := .mk 7 [p0, p1] 3 (.seq c76_0 (.seq c76_1 .ret)) [.t p3] 0
/- daybook/shape.alike -/
def c77_0 : CC := .reg [
 O p2 (.box 44 X0) 0,
 O p3 (.box 44 X1) 1,
 O p4 (.mv (.c (.bool false))) 2] false
def c77_1 : CC := .reg [
 O p5 (.faddr 0 X2) 0,
 O p6 (.load 1 false X5) 1,
 O p7 (.faddr 0 X3) 2,
 O p8 (.load 1 false X7) 3,
 O p9 (.bin .eql .bool X6 X8) 4,
 O p10 (.mv X9) 5,
 OG p11 p10 true (.faddr 1 X2) 6,
 OG p12 p10 true (.load 1 false X11) 7,
 OG p13 p10 true (.faddr 1 X3) 8,
 OG p14 p10 true (.load 1 false X13) 9,
 OG p15 p10 true (.bin .eql .num X12 X14) 10,
 O p16 (.pick X10 X15 (.c (.bool false))) 11,
 O p17 (.mv X16) 12,
 OG p18 p17 true (.faddr 2 X2) 13,
 OG p19 p17 true (.load 1 false X18) 14,
 OG p20 p17 true (.faddr 2 X3) 15,
 OG p21 p17 true (.load 1 false X20) 16,
 OG p22 p17 true (.bin .eql .bool X19 X21) 17,
 O p23 (.pick X17 X22 (.c (.bool false))) 18,
 O p4 (.mv X23) 19] false
def F77 : CF := .mk 24 [p0, p1] 5 (.seq c77_0 (.seq c77_1 .ret)) [.t p4] 3
/- slices.EqualFunc[[]daybook/api.Node,[]daybook/api.Node,daybook/api.Node,daybook/api.Node] -/
def c78_0 : CC := .reg [
 O p6 (.mv (.c (.bool false))) 0] false
def c78_1 : CC := .reg [
 O p10 (.mv X0) 0,
 O p11 (.len 1 X10) 1,
 O p12 (.mv X1) 2,
 O p13 (.len 1 X12) 3,
 O p14 (.bin .neq .num X11 X13) 4] false
def c78_2 : CC := .reg [
 O p6 (.mv (.c (.bool false))) 0] false
def c78_3 : CC := .reg [
 O p15 (.mv X0) 0,
 O p16 (.len 1 X15) 1,
 O p17 (.mv (.c (I 0))) 2] false
def c78_4 : CC := .reg [
 O p18 (.bin .lss .num X17 X16) 0] false
def c78_5 : CC := .reg [
 O p19 (.mv X17) 0,
 O p20 (.iaddr 8 X15 X17) 1,
 O p21 (.load 8 true X20) 2,
 O p8 (.alloc 36 [I 0, I 0, I 0, (.str []), (.str []), .nils, I 0, I 0]) 3,
 O p7 (.mv X19) 4,
 ON (.store 8 X8 X21) 5] false
def c78_6 : CC := .reg [
 O p22 (.mv X1) 0,
 O p23 (.mv X7) 1,
 O p24 (.iaddr 8 X22 X23) 2,
 O p25 (.load 8 true X24) 3,
 O p9 (.alloc 36 [I 0, I 0, I 0, (.str []), (.str []), .nils, I 0, I 0]) 4,
 ON (.store 8 X9 X25) 5] false
def c78_7 : CC := .reg [
 O p26 (.mv X2) 0,
 O p27 (.load 8 true X8) 1,
 O p28 (.load 8 true X9) 2,
 O p29 (.call X26 [X27, X28]) 3,
 O p30 (.un .not X29) 4] false
def c78_8 : CC := .reg [
 O p6 (.mv (.c (.bool false))) 0] false
def c78_9 : CC := .reg [
 O p31 (.bin .add .num X17 (.c (I 1))) 0,
 O p17 (.mv X31) 1] false
def c78_10 : CC := .loop (.seq c78_4 (.seq (.cond X18 .skip (.exit 0)) (.seq (.blk 1 (.seq c78_5 (.seq c78_6 (.seq c78_7 (.cond X30 (.seq c78_8 .ret) .skip))))) c78_9)))
def c78_11 : CC := .reg [
 O p6 (.mv (.c (.bool true))) 0] false
def F78 : CF := .mk 32 [p0, p1, p2] 6 (.seq c78_0 (.seq (.seq c78_1 (.cond X14 (.seq c78_2 .ret) .skip)) (.seq (.seq c78_3 (.blk 0 c78_10)) (.seq c78_11 .ret)))) [.t p6] 1
/- daybook/shape.node -/
def c79_0 : CC := .reg [
 O p1 (.box 44 X0) 0,
 O p2 (.alloc 36 [I 0, I 0, I 0, (.str []), (.str []), .nils, I 0, I 0]) 1] false
def c79_1 : CC := .reg [
 O p3 (.alloc 36 [I 0, I 0, I 0, (.str []), (.str []), .nils, I 0, I 0]) 0] false
def c79_2 : CC := .reg [
 O p7 (.faddr 0 X1) 0,
 O p8 (.load 1 false X7) 1,
 O p6 (.mv X8) 2] false
def c79_3 : CC := .reg [
 O p9 (.call (.c (.fn 118 [])) [(.c (.str [42]))]) 0,
 ON (.store 8 X2 X9) 1] false
def c79_4 : CC := .reg [
 O p11 (.faddr 8 X1) 0,
 O p12 (.load 1 false X11) 1,
 O p10 (.mv X12) 2] false
def c79_5 : CC := .reg [
 O p13 (.faddr 9 X1) 0,
 O p14 (.load 1 false X13) 1,
 O p15 (.call (.c (.fn 44 [])) [X14]) 2,
 ON (.store 8 X3 X15) 3] false
def c79_6 : CC := .reg [
 O p17 (.faddr 10 X1) 0,
 O p18 (.load 1 false X17) 1,
 O p19 (.bin .lss .num X18 (.c (I 0))) 2,
 O p16 (.mv X19) 3] false
def c79_7 : CC := .reg [
 O p20 (.call (.c (.fn 118 [])) [(.c (.str [46, 46, 46]))]) 0,
 ON (.store 8 X3 X20) 1] false
def c79_8 : CC := .reg [
 O p22 (.faddr 10 X1) 0,
 O p23 (.load 1 false X22) 1,
 O p24 (.bin .gtr .num X23 (.c (I 0))) 2,
 O p21 (.mv X24) 3] false
def c79_9 : CC := .reg [
 O p25 (.faddr 10 X1) 0,
 O p26 (.load 1 false X25) 1,
 O p27 (.call (.c (.fn 119 [])) [X26]) 2,
 ON (.store 8 X3 X27) 3] false
def c79_10 : CC := .reg [
 O p4 (.load 11 true X1) 0,
 O p5 (.call (.c (.fn 120 [])) [X4]) 1,
 ON (.store 8 X2 X5) 2] false
def c79_11 : CC := .reg [
 O p28 (.load 11 true X1) 0,
 .mk (some p30) none (.load 8 true X3) [2] 2,
 O p29 (.call (.c (.fn 120 [])) [X28]) 1,
 O p31 (.bslice 36 8 [I 0, I 0, I 0, (.str []), (.str []), .nils, I 0, I 0] 2 [(0, X29), (1, X30)]) 3,
 O p32 (.build [I 0, I 0, I 0, (.str []), (.str []), .nils, I 0, I 0] [(0, 1, (.c (I 5))), (5, 1, X31)]) 4,
 ON (.store 8 X2 X32) 5] true
def F79 : CF := .mk 33 [p0] 6 (.seq c79_0 (.seq c79_1 (.seq (.blk 0 (.seq c79_2 (.cond X6 (.seq c79_3 .ret) (.seq c79_4 (.cond X10 c79_5 (.seq c79_6 (.cond X16 c79_7 (.seq c79_8 (.cond X21 c79_9 (.seq c79_10 .ret)))))))))) (.seq c79_11 .ret)))) [.cell p2 8 true] 3
/- (*daybook/text.writer).list -/
def c85_0 : CC := .reg [
 O p8 (.mv X1) 0,
 O p9 (.len 1 X8) 1,
 O p10 (.mv (.c (I 0))) 2] false
def c85_1 : CC := .reg [
 O p11 (.bin .lss .num X10 X9) 0] false
def c85_2 : CC := .reg [
 O p12 (.mv X10) 0,
 O p13 (.iaddr 8 X8 X10) 1,
 O p14 (.load 8 true X13) 2,
 O p7 (.alloc 36 [I 0, I 0, I 0, (.str []), (.str []), .nils, I 0, I 0]) 3,
 O p6 (.mv X12) 4,
 ON (.store 8 X7 X14) 5] false
def c85_3 : CC := .reg [
 O p15 (.mv X6) 0,
 O p16 (.bin .gtr .num X15 (.c (I 0))) 1] false
def c85_4 : CC := .reg [
 O p17 (.mv X0) 0,
 O p18 (.nilck X17) 1,
 O p19 (.faddr 0 X18) 2,
 O p20 (.mv X2) 3,
 O p21 (.call (.c (.fn 123 [])) [X19, X20]) 4] false
def c85_5 : CC := .reg [
 O p22 (.mv X0) 0,
 O p23 (.load 8 true X7) 1,
 O p24 (.call (.c (.fn 124 [])) [X22, X23]) 2] false
def c85_6 : CC := .reg [
 O p25 (.mv X0) 0,
 O p26 (.nilck X25) 1,
 O p27 (.faddr 4 X26) 2,
 O p28 (.load 1 false X27) 3] false
def c85_7 : CC := .reg [
 O p29 (.bin .add .num X10 (.c (I 1))) 0,
 O p10 (.mv X29) 1] false
def c85_8 : CC := .loop (.seq c85_1 (.seq (.cond X11 .skip (.exit 0)) (.seq (.blk 1 (.seq c85_2 (.seq (.seq c85_3 (.cond X16 c85_4 .skip)) (.seq c85_5 (.seq c85_6 (.cond X28 .ret .skip)))))) c85_7)))
def F85 : CF := .mk 30 [p0, p1, p2] 5 (.seq c85_0 (.blk 0 c85_8)) [] 0
/- daybook/daybookref04.May -/
def c87_0 : CC := .reg [
 O p1 (.box 154 X0) 0,
 O p2 (.mv (.c (.bool false))) 1] false
def c87_1 : CC := .reg [
 O p3 (.faddr 0 X1) 0,
 O p4 (.load 1 false X3) 1,
 O p5 (.call (.c (.fn 125 [])) [X4]) 2,
 O p6 (.mv X5) 3,
 OG p7 p6 true (.faddr 1 X1) 4,
 OG p8 p6 true (.load 1 false X7) 5,
 OG p9 p6 true (.call (.c (.fn 125 [])) [X8]) 6,
 O p10 (.pick X6 X9 (.c (.bool false))) 7,
 O p11 (.mv X10) 8,
 OG p12 p11 true (.faddr 2 X1) 9,
 OG p13 p11 true (.load 3 true X12) 10,
 OG p14 p11 true (.call (.c (.fn 122 [])) [X13]) 11,
 O p15 (.pick X11 X14 (.c (.bool false))) 12,
 O p16 (.mv X15) 13,
 OG p17 p16 true (.faddr 5 X1) 14,
 OG p18 p16 true (.load 1 false X17) 15,
 OG p19 p16 true (.bin .geq .num X18 (.c (I 1))) 16,
 O p20 (.pick X16 X19 (.c (.bool false))) 17,
 O p21 (.mv X20) 18,
 OG p22 p21 true (.faddr 5 X1) 19,
 OG p23 p21 true (.load 1 false X22) 20,
 OG p24 p21 true (.bin .leq .num X23 (.c (I 1099511627776))) 21,
 O p25 (.pick X21 X24 (.c (.bool false))) 22,
 O p26 (.mv X25) 23,
 OG p27 p26 true (.faddr 7 X1) 24,
 OG p28 p26 true (.load 1 false X27) 25,
 OG p29 p26 true (.faddr 8 X1) 26,
 OG p30 p26 true (.load 1 false X29) 27,
 OG p31 p26 true (.bin .lss .num X28 X30) 28,
 O p32 (.pick X26 X31 (.c (.bool false))) 29,
 O p2 (.mv X32) 30] false
def F87 : CF := .mk 33 [p0] 6 (.seq c87_0 (.seq c87_1 .ret)) [.t p2] 3
/- daybook/daybookref03.Set -/
def c88_0 : CC := .reg [
 O p2 (.mv (.c (.bool false))) 0] false
def c88_1 : CC := .reg [
 O p3 (.mv (.c (I 0))) 0] false
def c88_2 : CC := .reg [
 O p4 (.mv X3) 0,
 O p5 (.mv X0) 1,
 O p6 (.len 1 X5) 2,
 O p7 (.bin .lss .num X4 X6) 3] false
def c88_3 : CC := .reg [
 O p10 (.mv X0) 0,
 O p11 (.mv X3) 1,
 O p12 (.iaddr 2 X10 X11) 2,
 O p13 (.faddr 0 X12) 3,
 O p14 (.load 1 false X13) 4,
 O p15 (.mv X0) 5,
 O p16 (.mv X3) 6,
 O p17 (.iaddr 2 X15 X16) 7,
 O p18 (.faddr 1 X17) 8,
 O p19 (.load 1 false X18) 9,
 O p20 (.bin .geq .num X14 X19) 10,
 O p21 (.mv X20) 11,
 OG p22 p21 false (.mv X3) 12,
 OG p23 p21 false (.bin .gtr .num X22 (.c (I 0))) 13,
 OG p24 p21 false (.mv X23) 14,
 OG p25 p24 true (.mv X0) 15,
 OG p26 p24 true (.mv X3) 16,
 OG p27 p24 true (.bin .sub .num X26 (.c (I 1))) 17,
 OG p28 p24 true (.iaddr 2 X25 X27) 18,
 OG p29 p24 true (.faddr 1 X28) 19,
 OG p30 p24 true (.load 1 false X29) 20,
 OG p31 p24 true (.mv X0) 21,
 OG p32 p24 true (.mv X3) 22,
 OG p33 p24 true (.iaddr 2 X31 X32) 23,
 OG p34 p24 true (.faddr 0 X33) 24,
 OG p35 p24 true (.load 1 false X34) 25,
 OG p36 p24 true (.bin .geq .num X30 X35) 26,
 OG p37 p21 false (.pick X24 X36 (.c (.bool false))) 27,
 O p38 (.pick X21 (.c (.bool true)) X37) 28] true
def c88_4 : CC := .reg [
 O p2 (.mv (.c (.bool false))) 0] false
def c88_5 : CC := .reg [
 O p8 (.mv X3) 0,
 O p9 (.bin .add .num X8 (.c (I 1))) 1,
 O p3 (.mv X9) 2] false
def c88_6 : CC := .loop (.seq (.seq c88_2 (.cond X7 .skip (.exit 0))) (.seq (.blk 1 (.seq c88_3 (.cond X38 (.seq c88_4 .ret) .skip))) c88_5))
def c88_7 : CC := .reg [
 O p2 (.mv (.c (.bool true))) 0] false
def F88 : CF := .mk 39 [p0] 6 (.seq c88_0 (.seq (.seq c88_1 (.blk 0 c88_6)) (.seq c88_7 .ret))) [.t p2] 3
/- daybook/daybookref06.Compare -/
def c89_0 : CC := .reg [
 O p2 (.box 71 X0) 0,
 O p3 (.box 71 X1) 1,
 O p4 (.mv (.c (I 0))) 2] false
def c89_1 : CC := .reg [
 O p5 (.faddr 0 X2) 0,
 O p6 (.load 1 false X5) 1,
 O p7 (.faddr 0 X3) 2,
 O p8 (.load 1 false X7) 3,
 O p9 (.bin .lss .num X6 X8) 4,
 O p10 (.mv X9) 5,
 OG p11 p10 false (.faddr 0 X2) 6,
 OG p12 p10 false (.load 1 false X11) 7,
 OG p13 p10 false (.faddr 0 X3) 8,
 OG p14 p10 false (.load 1 false X13) 9,
 OG p15 p10 false (.bin .eql .num X12 X14) 10,
 OG p16 p10 false (.mv X15) 11,
 OG p17 p16 true (.faddr 1 X2) 12,
 OG p18 p16 true (.load 1 false X17) 13,
 OG p19 p16 true (.faddr 1 X3) 14,
 OG p20 p16 true (.load 1 false X19) 15,
 OG p21 p16 true (.bin .lss .num X18 X20) 16,
 OG p22 p10 false (.pick X16 X21 (.c (.bool false))) 17,
 O p23 (.pick X10 (.c (.bool true)) X22) 18] false
def c89_2 : CC := .reg [
 O p4 (.mv (.c (I (-1)))) 0] false
def c89_3 : CC := .reg [
 O p24 (.faddr 0 X2) 0,
 O p25 (.load 1 false X24) 1,
 O p26 (.faddr 0 X3) 2,
 O p27 (.load 1 false X26) 3,
 O p28 (.bin .gtr .num X25 X27) 4,
 O p29 (.mv X28) 5,
 OG p30 p29 false (.faddr 1 X2) 6,
 OG p31 p29 false (.load 1 false X30) 7,
 OG p32 p29 false (.faddr 1 X3) 8,
 OG p33 p29 false (.load 1 false X32) 9,
 OG p34 p29 false (.bin .gtr .num X31 X33) 10,
 O p35 (.pick X29 (.c (.bool true)) X34) 11] false
def c89_4 : CC := .reg [
 O p4 (.mv (.c (I 1))) 0] false
def c89_5 : CC := .reg [
 O p36 (.faddr 2 X2) 0,
 O p37 (.load 3 true X36) 1,
 O p38 (.faddr 2 X3) 2,
 O p39 (.load 3 true X38) 3,
 O p40 (.call (.c (.fn 126 [])) [X37, X39]) 4,
 O p4 (.mv X40) 5] false
def F89 : CF := .mk 41 [p0, p1] 6 (.seq c89_0 (.seq (.seq c89_1 (.cond X23 (.seq c89_2 .ret) .skip)) (.seq (.seq c89_3 (.cond X35 (.seq c89_4 .ret) .skip)) (.seq c89_5 .ret)))) [.t p4] 3
/- daybook/daybookref07.values -/
def c90_0 : CC := .reg [
 O p6 (.mv (.c .nils)) 0] false
def c90_1 : CC := .reg [
 O p7 (.mv (.c .nils)) 0] false
def c90_2 : CC := .reg [
 O p8 (.mv (.c (I 0))) 0] false
def c90_3 : CC := .reg [
 O p9 (.mv X8) 0,
 O p10 (.mv X0) 1,
 O p11 (.len 1 X10) 2,
 O p12 (.bin .lss .num X9 X11) 3] false
def c90_4 : CC := .reg [
 O p15 (.mv X0) 0,
 O p16 (.mv X8) 1,
 O p17 (.iaddr 6 X15 X16) 2,
 O p18 (.faddr 0 X17) 3,
 O p19 (.load 1 false X18) 4,
 O p20 (.mv X1) 5,
 O p21 (.bin .eql .num X19 X20) 6,
 O p22 (.mv X21) 7,
 OG p23 p22 true (.mv X0) 8,
 OG p24 p22 true (.mv X8) 9,
 OG p25 p22 true (.iaddr 6 X23 X24) 10,
 OG p26 p22 true (.faddr 1 X25) 11,
 OG p27 p22 true (.load 1 false X26) 12,
 OG p28 p22 true (.mv X2) 13,
 OG p29 p22 true (.bin .eql .num X27 X28) 14,
 O p30 (.pick X22 X29 (.c (.bool false))) 15] false
def c90_5 : CC := .reg [
 O p31 (.mv X7) 0,
 O p32 (.mv X0) 1,
 O p33 (.mv X8) 2,
 O p34 (.iaddr 6 X32 X33) 3,
 O p35 (.faddr 2 X34) 4,
 O p36 (.load 3 true X35) 5,
 O p37 (.bslice 34 3 [I 0, I 0, (.str [])] 1 [(0, X36)]) 6,
 O p38 (.append 34 3 X31 X37) 7,
 O p7 (.mv X38) 8] false
def c90_6 : CC := .reg [
 O p13 (.mv X8) 0,
 O p14 (.bin .add .num X13 (.c (I 1))) 1,
 O p8 (.mv X14) 2] false
def c90_7 : CC := .loop (.seq (.seq c90_3 (.cond X12 .skip (.exit 0))) (.seq (.blk 1 (.seq c90_4 (.cond X30 c90_5 .skip))) c90_6))
def c90_8 : CC := .reg [
 O p39 (.mv X7) 0,
 O p6 (.mv X39) 1] false
def F90 : CF := .mk 40 [p0, p1, p2] 6 (.seq c90_0 (.seq c90_1 (.seq (.seq c90_2 (.blk 0 c90_7)) (.seq c90_8 .ret)))) [.t p6] 3
/- daybook/daybookref07.yes -/
def c91_0 : CC := .reg [
 O p2 (.mv (.c (.bool false))) 0] false
def c91_1 : CC := .reg [
 O p3 (.mv (.c (I 0))) 0] false
def c91_2 : CC := .reg [
 O p4 (.mv X3) 0,
 O p5 (.mv X0) 1,
 O p6 (.len 1 X5) 2,
 O p7 (.bin .lss .num X4 X6) 3] false
def c91_3 : CC := .reg [
 O p10 (.mv X0) 0,
 O p11 (.mv X3) 1,
 O p12 (.iaddr 3 X10 X11) 2,
 O p13 (.faddr 0 X12) 3,
 O p14 (.load 1 false X13) 4,
 O p15 (.bin .eql .num X14 (.c (I 2))) 5,
 O p16 (.mv X15) 6,
 OG p17 p16 true (.mv X0) 7,
 OG p18 p16 true (.mv X3) 8,
 OG p19 p16 true (.iaddr 3 X17 X18) 9,
 OG p20 p16 true (.faddr 1 X19) 10,
 OG p21 p16 true (.load 1 false X20) 11,
 OG p22 p16 true (.bin .eql .num X21 (.c (I 1))) 12,
 O p23 (.pick X16 X22 (.c (.bool false))) 13] false
def c91_4 : CC := .reg [
 O p2 (.mv (.c (.bool true))) 0] false
def c91_5 : CC := .reg [
 O p8 (.mv X3) 0,
 O p9 (.bin .add .num X8 (.c (I 1))) 1,
 O p3 (.mv X9) 2] false
def c91_6 : CC := .loop (.seq (.seq c91_2 (.cond X7 .skip (.exit 0))) (.seq (.blk 1 (.seq c91_3 (.cond X23 (.seq c91_4 .ret) .skip))) c91_5))
def c91_7 : CC := .reg [
 O p2 (.mv (.c (.bool false))) 0] false
def F91 : CF := .mk 24 [p0] 5 (.seq c91_0 (.seq (.seq c91_1 (.blk 0 c91_6)) (.seq c91_7 .ret))) [.t p2] 3
/- daybook/facts.all -/
def c92_0 : CC := .reg [
 O p2 (.mv (.c (.bool false))) 0] false
def c92_1 : CC := .reg [
 O p5 (.mv X0) 0,
 O p6 (.len 1 X5) 1,
 O p7 (.mv (.c (I 0))) 2] false
def c92_2 : CC := .reg [
 O p8 (.bin .lss .num X7 X6) 0] false
def c92_3 : CC := .reg [
 O p9 (.mv X7) 0,
 O p10 (.iaddr 6 X5 X7) 1,
 O p11 (.load 6 true X10) 2,
 O p4 (.alloc 71 [I 0, I 0, I 0, I 0, (.str []), .nils]) 3,
 O p3 (.mv X9) 4,
 ON (.store 6 X4 X11) 5] false
def c92_4 : CC := .reg [
 O p12 (.load 6 true X4) 0,
 O p13 (.call (.c (.fn 127 [])) [X12]) 1,
 O p14 (.un .not X13) 2,
 O p15 (.mv X14) 3,
 OG p16 p15 false (.mv X3) 4,
 OG p17 p15 false (.bin .gtr .num X16 (.c (I 0))) 5,
 OG p18 p15 false (.mv X17) 6,
 OG p19 p18 true (.mv X0) 7,
 OG p20 p18 true (.mv X3) 8,
 OG p21 p18 true (.bin .sub .num X20 (.c (I 1))) 9,
 OG p22 p18 true (.iaddr 6 X19 X21) 10,
 OG p23 p18 true (.load 6 true X22) 11,
 OG p24 p18 true (.load 6 true X4) 12,
 OG p25 p18 true (.call (.c (.fn 128 [])) [X23, X24]) 13,
 OG p26 p18 true (.bin .geq .num X25 (.c (I 0))) 14,
 OG p27 p15 false (.pick X18 X26 (.c (.bool false))) 15,
 O p28 (.pick X15 (.c (.bool true)) X27) 16] true
def c92_5 : CC := .reg [
 O p2 (.mv (.c (.bool false))) 0] false
def c92_6 : CC := .reg [
 O p29 (.bin .add .num X7 (.c (I 1))) 0,
 O p7 (.mv X29) 1] false
def c92_7 : CC := .loop (.seq c92_2 (.seq (.cond X8 .skip (.exit 0)) (.seq (.blk 1 (.seq c92_3 (.seq c92_4 (.cond X28 (.seq c92_5 .ret) .skip)))) c92_6)))
def c92_8 : CC := .reg [
 O p2 (.mv (.c (.bool true))) 0] false
def F92 : CF := .mk 30 [p0] 5 (.seq c92_0 (.seq (.seq c92_1 (.blk 0 c92_7)) (.seq c92_8 .ret))) [.t p2] 3
/- (*daybook/pull.puller).items -/
def c93_0 : CC := .reg [
 O p4 (.box 2 X1) 0,
 O p6 (.mv (.c .nils)) 1] false
def c93_1 : CC := .reg [
 O p11 (.mv X2) 0,
 O p12 (.call (.c (.fn 130 [])) [X11]) 1,
 O p13 (.call (.c (.fn 129 [])) [X12, (.c (.fn 131 []))]) 2,
 O p7 (.mv X13) 3] false
def c93_2 : CC := .reg [
 O p14 (.mv X7) 0,
 O p15 (.len 1 X14) 1,
 O p16 (.mv X2) 2,
 O p17 (.len 1 X16) 3,
 O p18 (.bin .eql .num X15 X17) 4] false
def c93_3 : CC := .reg [
 O p19 (.mv X7) 0,
 O p6 (.mv X19) 1] false
def c93_4 : CC := .reg [
 O p20 (.mv X0) 0,
 O p21 (.nilck X20) 1,
 O p22 (.faddr 2 X21) 2,
 O p23 (.load 1 false X22) 3,
 O p24 (.len 1 X23) 4,
 O p25 (.mv (.c (I 0))) 5] false
def c93_5 : CC := .reg [
 O p26 (.bin .lss .num X25 X24) 0] false
def c93_6 : CC := .reg [
 O p27 (.iaddr 7 X23 X25) 0,
 O p28 (.load 7 true X27) 1,
 O p9 (.alloc 66 [I 0, (.str []), I 0, (.bool false), I 0, (.bool false), (.bool false)]) 2,
 ON (.store 7 X9 X28) 3] false
def c93_7 : CC := .reg [
 O p29 (.mv X0) 0,
 O p30 (.nilck X29) 1,
 O p31 (.faddr 0 X30) 2,
 O p32 (.load 1 false X31) 3,
 O p33 (.mkfn 133 [X4, X9]) 4,
 O p34 (.call (.c (.fn 132 [])) [X32, X33]) 5,
 O p10 (.mv X34) 6] false
def c93_8 : CC := .reg [
 O p35 (.mv X10) 0,
 O p36 (.mv X35) 1,
 OG p37 p36 true (.mv X2) 2,
 OG p38 p36 true (.mkfn 134 [X9]) 3,
 OG p39 p36 true (.call (.c (.fn 75 [])) [X37, X38]) 4,
 OG p40 p36 true (.un .not X39) 5,
 O p41 (.pick X36 X40 (.c (.bool false))) 6] false
def c93_9 : CC := .reg [
 O p42 (.mv X7) 0,
 O p43 (.faddr 1 X9) 1,
 O p44 (.load 1 false X43) 2,
 O p45 (.build [(.bool false), (.str []), (.bool false), I 0, (.bool false), I 0, I 0, (.str []), (.bool false), .nils, I 0] [(1, 1, X44)]) 3,
 O p46 (.bslice 44 11 [(.bool false), (.str []), (.bool false), I 0, (.bool false), I 0, I 0, (.str []), (.bool false), .nils, I 0] 1 [(0, X45)]) 4,
 O p47 (.append 44 11 X42 X46) 5,
 O p7 (.mv X47) 6] false
def c93_10 : CC := .reg [
 O p48 (.bin .add .num X25 (.c (I 1))) 0,
 O p25 (.mv X48) 1] false
def c93_11 : CC := .loop (.seq c93_5 (.seq (.cond X26 .skip (.exit 0)) (.seq (.blk 1 (.seq c93_6 (.seq c93_7 (.seq c93_8 (.cond X41 c93_9 .skip))))) c93_10)))
def c93_12 : CC := .reg [
 O p49 (.mv X7) 0,
 O p6 (.mv X49) 1] false
def F93 : CF := .mk 50 [p0, p1, p2] 6 (.seq c93_0 (.seq c93_1 (.seq (.seq c93_2 (.cond X18 (.seq c93_3 .ret) .skip)) (.seq (.seq c93_4 (.blk 0 c93_11)) (.seq c93_12 .ret))))) [.t p6] 2
/- (*daybook/pull.puller).branch -/
def c94_0 : CC := .reg [
 O p5 (.box 104 X0) 0,
 O p7 (.box 44 X2) 1,
 O p8 (.box 22 X3) 2,
 O p9 (.box 63 X4) 3,
 O p10 (.alloc 74 [(.str []), (.bool false), .nils]) 4] false
def c94_1 : CC := .reg [
 O p13 (.faddr 1 X7) 0,
 O p14 (.load 1 false X13) 1,
 O p15 (.faddr 2 X7) 2,
 O p16 (.load 1 false X15) 3,
 O p17 (.build [(.str []), (.bool false), .nils] [(0, 1, X14), (1, 1, X16)]) 4,
 O p11 (.alloc 74 [(.str []), (.bool false), .nils]) 5,
 ON (.store 3 X11 X17) 6] false
def c94_2 : CC := .reg [
 O p18 (.load 1 false X5) 0,
 O p19 (.mv X1) 1,
 O p20 (.load 11 true X7) 2,
 O p21 (.call (.c (.fn 135 [])) [X18, X19, X20]) 3] false
def c94_3 : CC := .reg [
 O p12 (.alloc 34 [I 0, I 0, (.str [])]) 0,
 ON (.store 3 X12 X22) 1] false
def c94_4 : CC := .reg [
 O p23 (.load 1 false X5) 0,
 O p24 (.nilck X23) 1,
 O p25 (.faddr 4 X24) 2,
 O p26 (.load 1 false X25) 3,
 O p27 (.mv X26) 4,
 OG p28 p27 false (.faddr 3 X7) 5,
 OG p29 p27 false (.load 1 false X28) 6,
 OG p30 p27 false (.bin .gtr .num X29 (.c (I 0))) 7,
 OG p31 p27 false (.mv X30) 8,
 OG p32 p31 true (.faddr 2 X11) 9,
 OG p33 p31 true (.load 1 false X32) 10,
 OG p34 p31 true (.len 1 X33) 11,
 OG p35 p31 true (.faddr 3 X7) 12,
 OG p36 p31 true (.load 1 false X35) 13,
 OG p37 p31 true (.bin .eql .num X34 X36) 14,
 OG p38 p27 false (.pick X31 X37 (.c (.bool false))) 15,
 O p39 (.pick X27 (.c (.bool true)) X38) 16] false
def c94_5 : CC := .reg [
 O p40 (.faddr 2 X11) 0,
 .mk (some p41) none (.load 1 false X40) [7] 1,
 O p42 (.load 1 false X5) 2,
 O p43 (.load 3 true X12) 3,
 O p44 (.load 11 true X7) 4,
 O p45 (.load 1 false X8) 5,
 O p46 (.load 1 false X9) 6,
 O p47 (.call (.c (.fn 136 [])) [X42, X43, X44, X45, X46]) 7,
 O p48 (.bslice 76 5 [I 0, I 0, (.str []), (.bool false), .nils] 1 [(0, X47)]) 8,
 O p49 (.append 76 5 X41 X48) 9,
 O p50 (.faddr 2 X11) 10,
 ON (.store 1 X50 X49) 11] true
def c94_6 : CC := .rng X21 [p22] c94_3 (.blk 1 (.seq (.seq c94_4 (.cond X39 (.exit 0) .skip)) c94_5))
def c94_7 : CC := .reg [
 O p51 (.faddr 2 X11) 0,
 O p52 (.load 1 false X51) 1,
 O p53 (.len 1 X52) 2,
 O p54 (.bin .eql .num X53 (.c (I 0))) 3,
 O p55 (.mv X54) 4,
 OG p56 p55 true (.faddr 4 X7) 5,
 OG p57 p55 true (.load 1 false X56) 6,
 O p58 (.pick X55 X57 (.c (.bool false))) 7] false
def c94_8 : CC := .reg [
 O p59 (.faddr 2 X11) 0,
 .mk (some p60) none (.load 1 false X59) [6] 1,
 O p61 (.load 1 false X5) 2,
 O p62 (.faddr 5 X7) 3,
 O p63 (.load 3 true X62) 4,
 O p64 (.build [(.bool false), (.str []), (.bool false), I 0, (.bool false), I 0, I 0, (.str []), (.bool false), .nils, I 0] []) 5,
 O p65 (.call (.c (.fn 136 [])) [X61, X63, X64, (.c .nils), (.c .nils)]) 6,
 O p66 (.bslice 76 5 [I 0, I 0, (.str []), (.bool false), .nils] 1 [(0, X65)]) 7,
 O p67 (.append 76 5 X60 X66) 8,
 O p68 (.faddr 2 X11) 9,
 ON (.store 1 X68 X67) 10] true
def c94_9 : CC := .reg [
 O p69 (.load 3 true X11) 0,
 ON (.store 3 X10 X69) 1] false
def F94 : CF := .mk 70 [p0, p1, p2, p3, p4] 7 (.seq c94_0 (.scope (.seq c94_1 (.seq .skip (.seq (.seq c94_2 (.blk 0 c94_6)) (.seq (.seq c94_7 (.cond X58 c94_8 .skip)) (.seq c94_9 .ret))))))) [.cell p10 3 true] 2
/- slices.SortFunc[[]daybook/api.Branch,daybook/api.Branch] -/
def c95_0 : CC := .reg [
 O p5 (.mv X0) 0,
 O p6 (.len 1 X5) 1,
 O p4 (.mv X6) 2] false
def c95_1 : CC := .reg [
 O p7 (.mv X0) 0,
 O p8 (.mv X4) 1,
 O p9 (.mv X4) 2,
 O p10 (.toint .u64 X9) 3,
 O p11 (.call (.c (.fn 138 [])) [X10]) 4,
 O p12 (.mv X1) 5,
 O p13 (.call (.c (.fn 137 [])) [X7, (.c (I 0)), X8, X11, X12]) 6] false
def F95 : CF := .mk 14 [p0, p1] 4 (.seq c95_0 c95_1) [] 0
/- daybook/pull.compare -/
def c96_0 : CC := .reg [
 O p2 (.box 74 X0) 0,
 O p3 (.box 74 X1) 1,
 O p4 (.mv (.c (I 0))) 2] false
def c96_1 : CC := .reg [
 O p5 (.faddr 0 X2) 0,
 O p6 (.load 1 false X5) 1,
 O p7 (.faddr 0 X3) 2,
 O p8 (.load 1 false X7) 3,
 O p10 (.faddr 1 X2) 5,
 .mk (some p11) none (.load 1 false X10) [8] 6,
 O p13 (.faddr 1 X3) 8,
 .mk (some p14) none (.load 1 false X13) [8, 9] 9,
 O p9 (.call (.c (.fn 140 [])) [X6, X8]) 4,
 O p12 (.call (.c (.fn 142 [])) [X11]) 7,
 O p15 (.call (.c (.fn 142 [])) [X14]) 10,
 O p16 (.call (.c (.fn 141 [])) [X12, X15]) 11,
 O p17 (.bslice 3 1 [I 0] 2 [(0, X9), (1, X16)]) 12,
 O p18 (.call (.c (.fn 139 [])) [X17]) 13,
 O p4 (.mv X18) 14] true
def F96 : CF := .mk 19 [p0, p1] 5 (.seq c96_0 (.seq c96_1 .ret)) [.t p4] 1
/- daybook/value.Check -/
def c97_0 : CC := .reg [
 O p1 (.box 34 X0) 0,
 O p2 (.mv (.c (I 0))) 1] false
def c97_1 : CC := .reg [
 O p3 (.load 3 true X1) 0,
 O p4 (.call (.c (.fn 107 [])) [X3]) 1,
 O p5 (.un .not X4) 2] false
def c97_2 : CC := .reg [
 O p2 (.mv (.c (I 10))) 0] false
def c97_3 : CC := .reg [
 O p2 (.mv (.c (I 0))) 0] false
def F97 : CF := .mk 6 [p0] 3 (.seq c97_0 (.seq (.seq c97_1 (.cond X5 (.seq c97_2 .ret) .skip)) (.seq c97_3 .ret))) [.t p2] 1
/- daybook/pull.said -/
def c98_0 : CC := .reg [
 O p1 (.box 34 X0) 0,
 O p2 (.alloc 36 [I 0, I 0, I 0, (.str []), (.str []), .nils, I 0, I 0]) 1] false
def c98_1 : CC := .reg [
 O p3 (.load 3 true X1) 0,
 O p4 (.build [I 0, I 0, I 0, (.str []), (.str []), .nils, I 0, I 0] [(0, 1, (.c (I 1))), (1, 3, X3)]) 1,
 ON (.store 8 X2 X4) 2] false
def F98 : CF := .mk 5 [p0] 3 (.seq c98_0 (.seq c98_1 .ret)) [.cell p2 8 true] 1
/- slices.Chunk[[]daybook/api.Node,daybook/api.Node] -/
def c99_0 : CC := .reg [
 O p2 (.box 29 X0) 0,
 O p3 (.box 3 X1) 1,
 O p4 (.mv (.c .nilf)) 2] false
def c99_1 : CC := .reg [
 O p5 (.load 1 false X3) 0,
 O p6 (.bin .lss .num X5 (.c (I 1))) 1] false
def c99_2 : CC := .reg [
 O p7 (.mkif 9 (.c (.str [99, 97, 110, 110, 111, 116, 32, 98, 101, 32, 108, 101, 115, 115, 32, 116, 104, 97, 110, 32, 49]))) 0,
 ON .bad 1] false
def c99_3 : CC := .reg [
 O p8 (.mkfn 143 [X2, X3]) 0,
 O p4 (.mv X8) 1] false
def F99 : CF := .mk 9 [p0, p1] 4 (.seq c99_0 (.seq (.seq c99_1 (.cond X6 c99_2 .skip)) (.seq c99_3 .ret))) [.t p4] 0
/- daybook/pull.leaf -/
def c100_0 : CC := .reg [
 O p2 (.box 36 X0) 0,
 O p4 (.alloc 76 [I 0, I 0, (.str []), (.bool false), .nils]) 1,
 O p5 (.mv (.c (.bool false))) 2] false
def c100_1 : CC := .reg [
 O p8 (.faddr 0 X2) 0,
 O p9 (.load 1 false X8) 1,
 O p10 (.bin .neq .num X9 (.c (I 3))) 2] false
def c100_2 : CC := .reg [
 O p11 (.faddr 1 X2) 0,
 O p12 (.load 3 true X11) 1,
 O p13 (.build [I 0, I 0, (.str []), (.bool false), .nils] [(0, 3, X12)]) 2,
 ON (.store 5 X4 X13) 3,
 O p5 (.mv (.c (.bool true))) 4] false
def c100_3 : CC := .reg [
 O p14 (.faddr 5 X2) 0,
 O p15 (.load 1 false X14) 1,
 O p16 (.len 1 X15) 2,
 O p17 (.bin .neq .num X16 (.c (I 2))) 3] false
def c100_4 : CC := .reg [
 O p18 (.build [I 0, I 0, (.str []), (.bool false), .nils] []) 0,
 ON (.store 5 X4 X18) 1,
 O p5 (.mv (.c (.bool false))) 2] false
def c100_5 : CC := .reg [
 O p20 (.faddr 5 X2) 0,
 O p21 (.load 1 false X20) 1,
 O p22 (.iaddr 8 X21 (.c (I 1))) 2,
 O p23 (.load 8 true X22) 3,
 O p24 (.mv X1) 4,
 O p25 (.bin .add .num X24 (.c (I 1))) 5,
 O p26 (.call (.c (.fn 62 [])) [X23, X25]) 6,
 O p19 (.mv X26) 7,
 O p27 (.ext 0 X19) 8,
 O p28 (.ext 1 X19) 9,
 O p6 (.mv X27) 10,
 O p7 (.mv X28) 11] false
def c100_6 : CC := .reg [
 O p29 (.faddr 5 X2) 0,
 O p30 (.load 1 false X29) 1,
 O p31 (.iaddr 8 X30 (.c (I 0))) 2,
 O p32 (.faddr 1 X31) 3,
 O p33 (.load 3 true X32) 4,
 O p34 (.mv X6) 5,
 O p35 (.build [I 0, I 0, (.str []), (.bool false), .nils] [(0, 3, X33), (3, 1, (.c (.bool true))), (4, 1, X34)]) 6,
 O p36 (.mv X7) 7,
 ON (.store 5 X4 X35) 8,
 O p5 (.mv X36) 9] false
def F100 : CF := .mk 37 [p0, p1] 6 (.seq c100_0 (.seq (.seq c100_1 (.cond X10 (.seq c100_2 .ret) .skip)) (.seq (.seq c100_3 (.cond X17 (.seq c100_4 .ret) .skip)) (.seq c100_5 (.seq c100_6 .ret))))) [.cell p4 5 true, .t p5] 1
/- daybook/text.tokens$1 -/
def c101_0 : CC := .reg [
 O p3 (.mv (.c (I 1))) 0,
 O p4 (.mv (.c (I 0))) 1] false
def c101_1 : CC := .reg [
 O p5 (.mv (.c (.bool false))) 0] false
def c101_2 : CC := .reg [
 O p6 (.mv (.c (I 0))) 0] false
def c101_3 : CC := .reg [
 O p13 (.mv X6) 0,
 O p14 (.load 1 false X1) 1,
 O p15 (.len 0 X14) 2,
 O p16 (.bin .lss .num X13 X15) 3] false
def c101_4 : CC := .reg [
 O p17 (.mv X3) 0,
 O p18 (.mv X6) 1,
 O p19 (.mv X4) 2,
 O p20 (.bin .sub .num X18 X19) 3,
 O p21 (.bin .add .num X20 (.c (I 1))) 4,
 O p22 (.build [(.str []), I 0, I 0, (.bool false)] [(1, 1, X17), (2, 1, X21)]) 5,
 O p7 (.alloc 124 [(.str []), I 0, I 0, (.bool false)]) 6,
 ON (.store 4 X7 X22) 7] false
def c101_5 : CC := .reg [
 O p23 (.load 1 false X1) 0,
 O p24 (.mv X6) 1,
 O p25 (.index X23 X24) 2,
 O p8 (.mv X25) 3] false
def c101_6 : CC := .reg [
 O p27 (.mv X8) 0,
 O p28 (.bin .eql .num X27 (.c (.int .u8 10))) 1,
 O p26 (.mv X28) 2] false
def c101_7 : CC := .reg [
 O p30 (.mv X8) 0,
 O p31 (.call (.c (.fn 102 [])) [X30]) 1,
 O p29 (.mv X31) 2] false
def c101_8 : CC := .reg [
 O p33 (.mv X8) 0,
 O p34 (.bin .eql .num X33 (.c (.int .u8 59))) 1,
 O p32 (.mv X34) 2] false
def c101_9 : CC := .reg [
 O p36 (.mv X8) 0,
 O p37 (.call (.c (.fn 103 [])) [(.c (.str [40, 91, 123, 41, 93, 125])), X36]) 1,
 O p38 (.bin .geq .num X37 (.c (I 0))) 2,
 O p35 (.mv X38) 3] false
def c101_10 : CC := .reg [
 O p39 (.mv X3) 0,
 O p40 (.bin .add .num X39 (.c (I 1))) 1,
 O p3 (.mv X40) 2] false
def c101_11 : CC := .reg [
 O p41 (.mv X6) 0,
 O p42 (.bin .add .num X41 (.c (I 1))) 1,
 O p4 (.mv X42) 2] false
def c101_12 : CC := .reg [
 O p5 (.mv (.c (.bool false))) 0] false
def c101_13 : CC := .reg [
 O p43 (.mv X6) 0,
 O p44 (.bin .add .num X43 (.c (I 1))) 1,
 O p6 (.mv X44) 2] false
def c101_14 : CC := .reg [
 O p45 (.mv X6) 0,
 O p46 (.load 1 false X1) 1,
 O p47 (.len 0 X46) 2,
 O p48 (.bin .lss .num X45 X47) 3,
 O p49 (.mv X48) 4,
 OG p50 p49 true (.load 1 false X1) 5,
 OG p51 p49 true (.mv X6) 6,
 OG p52 p49 true (.index X50 X51) 7,
 OG p53 p49 true (.bin .neq .num X52 (.c (.int .u8 10))) 8,
 O p54 (.pick X49 X53 (.c (.bool false))) 9] false
def c101_15 : CC := .reg [
 O p55 (.mv X6) 0,
 O p56 (.bin .add .num X55 (.c (I 1))) 1,
 O p6 (.mv X56) 2] false
def c101_16 : CC := .loop (.seq (.seq c101_14 (.cond X54 .skip (.exit 8))) (.blk 9 c101_15))
def c101_17 : CC := .reg [
 O p57 (.load 1 false X1) 0,
 O p58 (.mv X6) 1,
 O p59 (.mv X6) 2,
 O p60 (.bin .add .num X59 (.c (I 1))) 3,
 O p61 (.slices X57 (some X58) (some X60)) 4,
 O p62 (.faddr 0 X7) 5,
 ON (.store 1 X62 X61) 6,
 O p5 (.mv (.c (.bool false))) 7] false
def c101_18 : CC := .reg [
 O p64 (.load 1 false X1) 0,
 O p65 (.mv X6) 1,
 O p66 (.slices X64 (some X65) none) 2,
 O p67 (.call (.c (.fn 104 [])) [X66]) 3,
 O p63 (.mv X67) 4,
 O p68 (.ext 0 X63) 5,
 O p69 (.ext 1 X63) 6,
 O p9 (.mv X68) 7,
 O p10 (.mv X69) 8] false
def c101_19 : CC := .reg [
 O p70 (.mv X5) 0,
 O p71 (.mv X70) 1,
 OG p72 p71 false (.mv X10) 2,
 OG p73 p71 false (.un .not X72) 3,
 O p74 (.pick X71 (.c (.bool true)) X73) 4,
 O p75 (.faddr 3 X7) 5,
 ON (.store 1 X75 X74) 6] false
def c101_20 : CC := .reg [
 O p76 (.mv X5) 0,
 O p77 (.un .not X76) 1,
 O p78 (.mv X77) 2,
 OG p79 p78 true (.mv X10) 3,
 OG p80 p78 true (.un .not X79) 4,
 O p81 (.pick X78 X80 (.c (.bool false))) 5,
 O p82 (.mv X81) 6,
 OG p83 p82 true (.mv X8) 7,
 OG p84 p82 true (.bin .eql .num X83 (.c (.int .u8 34))) 8,
 O p85 (.pick X82 X84 (.c (.bool false))) 9] false
def c101_21 : CC := .reg [
 O p86 (.load 1 false X1) 0,
 O p87 (.mv X6) 1,
 O p88 (.slices X86 (some X87) none) 2,
 O p89 (.s2b X88) 3,
 O p90 (.len 1 X89) 4,
 O p91 (.mv (.c (I 0))) 5] false
def c101_22 : CC := .reg [
 O p92 (.bin .lss .num X91 X90) 0] false
def c101_23 : CC := .reg [
 O p93 (.iaddr 1 X89 X91) 0,
 O p94 (.load 1 false X93) 1,
 O p12 (.mv X94) 2] false
def c101_24 : CC := .reg [
 O p95 (.mv X6) 0,
 O p96 (.bin .add .num X95 (.c (I 1))) 1,
 O p6 (.mv X96) 2] false
def c101_25 : CC := .reg [
 O p97 (.mv X12) 0,
 O p98 (.bin .eql .num X97 (.c (.int .u8 10))) 1] false
def c101_26 : CC := .reg [
 O p99 (.mv X3) 0,
 O p100 (.bin .add .num X99 (.c (I 1))) 1,
 O p3 (.mv X100) 2] false
def c101_27 : CC := .reg [
 O p101 (.mv X6) 0,
 O p4 (.mv X101) 1] false
def c101_28 : CC := .reg [
 O p102 (.bin .add .num X91 (.c (I 1))) 0,
 O p91 (.mv X102) 1] false
def c101_29 : CC := .loop (.seq c101_22 (.seq (.cond X92 .skip (.exit 10)) (.seq (.blk 11 (.seq c101_23 (.seq c101_24 (.seq c101_25 (.cond X98 (.seq c101_26 c101_27) .skip))))) c101_28)))
def c101_30 : CC := .reg [
 O p103 (.mv X3) 0,
 O p104 (.mv X6) 1,
 O p105 (.mv X4) 2,
 O p106 (.bin .sub .num X104 X105) 3,
 O p107 (.bin .add .num X106 (.c (I 1))) 4,
 O p108 (.faddr 1 X7) 5,
 ON (.store 1 X108 X103) 6,
 O p109 (.faddr 2 X7) 7,
 ON (.store 1 X109 X107) 8] false
def c101_31 : CC := .reg [
 O p110 (.faddr 3 X7) 0,
 O p111 (.load 1 false X110) 1] false
def c101_32 : CC := .reg [
 O p112 (.mv X0) 0,
 O p113 (.load 4 true X7) 1,
 O p114 (.call X112 [X113]) 2] false
def c101_33 : CC := .reg [
 O p115 (.load 1 false X1) 0,
 O p116 (.mv X6) 1,
 O p117 (.mv X6) 2,
 O p118 (.mv X9) 3,
 O p119 (.bin .add .num X117 X118) 4,
 O p120 (.slices X115 (some X116) (some X119)) 5,
 O p121 (.faddr 0 X7) 6,
 ON (.store 1 X121 X120) 7,
 O p5 (.mv (.c (.bool true))) 8] false
def c101_34 : CC := .reg [
 O p122 (.mv X0) 0,
 O p123 (.load 4 true X7) 1,
 O p124 (.call X122 [X123]) 2,
 O p125 (.un .not X124) 3] false
def c101_35 : CC := .reg [
 O p126 (.mv X6) 0,
 O p127 (.faddr 0 X7) 1,
 O p128 (.load 1 false X127) 2,
 O p129 (.len 0 X128) 3,
 O p130 (.bin .add .num X126 X129) 4,
 O p6 (.mv X130) 5] false
def c101_36 : CC := .loop (.seq (.seq c101_3 (.cond X16 .skip (.exit 0))) (.blk 1 (.seq c101_4 (.seq (.seq c101_5 (.blk 2 (.seq (.blk 7 (.seq (.blk 6 (.seq (.blk 5 (.seq (.blk 4 (.seq (.blk 3 (.seq (.seq (.seq c101_6 (.cond X26 (.exit 3) .skip)) (.seq (.seq c101_7 (.cond X29 (.exit 4) .skip)) (.seq (.seq c101_8 (.cond X32 (.exit 5) .skip)) (.seq c101_9 (.cond X35 (.exit 6) .skip))))) (.exit 7))) (.seq c101_10 c101_11))) (.seq (.seq c101_12 (.seq c101_13 (.exit 1))) (.exit 2)))) (.seq (.seq (.blk 8 c101_16) (.exit 1)) (.exit 2)))) (.seq c101_17 (.exit 2)))) (.seq (.seq c101_18 (.seq c101_19 (.seq (.seq c101_20 (.cond X85 (.seq (.seq c101_21 (.blk 10 c101_29)) c101_30) .skip)) (.seq (.seq c101_31 (.cond X111 (.seq c101_32 .ret) .skip)) c101_33)))) (.exit 2))))) (.seq (.seq c101_34 (.cond X125 .ret .skip)) c101_35)))))
def c101_37 : CC := .reg [
 O p131 (.mv X0) 0,
 O p132 (.mv X3) 1,
 O p133 (.load 1 false X1) 2,
 O p134 (.len 0 X133) 3,
 O p135 (.mv X4) 4,
 O p136 (.bin .sub .num X134 X135) 5,
 O p137 (.bin .add .num X136 (.c (I 1))) 6,
 O p138 (.build [(.str []), I 0, I 0, (.bool false)] [(1, 1, X132), (2, 1, X137)]) 7,
 O p139 (.call X131 [X138]) 8] false
def F101 : CF := .mk 140 [p0, p1] 8 (.scope (.seq c101_0 (.seq c101_1 (.seq .skip (.seq (.seq c101_2 (.blk 0 c101_36)) c101_37))))) [] 0
/- daybook/text.blank -/
def c102_0 : CC := .reg [
 O p2 (.mv (.c (.bool false))) 0] false
def c102_1 : CC := .reg [
 O p3 (.mv X0) 0,
 O p4 (.bin .eql .num X3 (.c (.int .u8 32))) 1,
 O p5 (.mv X4) 2,
 OG p6 p5 false (.mv X0) 3,
 OG p7 p5 false (.bin .eql .num X6 (.c (.int .u8 9))) 4,
 O p8 (.pick X5 (.c (.bool true)) X7) 5,
 O p9 (.mv X8) 6,
 OG p10 p9 false (.mv X0) 7,
 OG p11 p9 false (.bin .eql .num X10 (.c (.int .u8 10))) 8,
 O p12 (.pick X9 (.c (.bool true)) X11) 9,
 O p13 (.mv X12) 10,
 OG p14 p13 false (.mv X0) 11,
 OG p15 p13 false (.bin .eql .num X14 (.c (.int .u8 13))) 12,
 O p16 (.pick X13 (.c (.bool true)) X15) 13,
 O p2 (.mv X16) 14] false
def F102 : CF := .mk 17 [p0] 5 (.seq c102_0 (.seq c102_1 .ret)) [.t p2] 3
/- daybook/text.size -/
def c104_0 : CC := .reg [
 O p2 (.mv (.c (I 0))) 0,
 O p3 (.mv (.c (.bool false))) 1] false
def c104_1 : CC := .reg [
 O p7 (.mv X0) 0,
 O p8 (.index X7 (.c (I 0))) 1,
 O p9 (.bin .eql .num X8 (.c (.int .u8 34))) 2] false
def c104_2 : CC := .reg [
 O p10 (.mv X0) 0,
 O p11 (.slices X10 (some (.c (I 1))) none) 1,
 O p12 (.call (.c (.fn 103 [])) [X11, (.c (.int .u8 34))]) 2,
 O p4 (.mv X12) 3] false
def c104_3 : CC := .reg [
 O p13 (.mv X4) 0,
 O p14 (.bin .add .num X13 (.c (I 2))) 1,
 O p15 (.mv X4) 2,
 O p16 (.bin .geq .num X15 (.c (I 0))) 3,
 O p2 (.mv X14) 4,
 O p3 (.mv X16) 5] false
def c104_4 : CC := .reg [
 O p5 (.mv (.c (.fn 145 []))) 0] false
def c104_5 : CC := .reg [
 O p6 (.mv (.c (I 0))) 0] false
def c104_6 : CC := .reg [
 O p17 (.mv X6) 0,
 O p18 (.mv X0) 1,
 O p19 (.len 0 X18) 2,
 O p20 (.bin .lss .num X17 X19) 3,
 O p21 (.mv X20) 4,
 OG p22 p21 true (.mv X5) 5,
 OG p23 p21 true (.mv X0) 6,
 OG p24 p21 true (.mv X6) 7,
 OG p25 p21 true (.index X23 X24) 8,
 OG p26 p21 true (.call X22 [X25]) 9,
 O p27 (.pick X21 X26 (.c (.bool false))) 10] false
def c104_7 : CC := .reg [
 O p28 (.mv X6) 0,
 O p29 (.bin .add .num X28 (.c (I 1))) 1,
 O p6 (.mv X29) 2] false
def c104_8 : CC := .loop (.seq (.seq c104_6 (.cond X27 .skip (.exit 0))) (.blk 1 c104_7))
def c104_9 : CC := .reg [
 O p30 (.mv X6) 0,
 O p31 (.mv X6) 1,
 O p32 (.bin .gtr .num X31 (.c (I 0))) 2,
 O p2 (.mv X30) 3,
 O p3 (.mv X32) 4] false
def F104 : CF := .mk 33 [p0] 6 (.seq c104_0 (.seq (.seq c104_1 (.cond X9 (.seq c104_2 (.seq c104_3 .ret)) .skip)) (.seq c104_4 (.seq c104_5 (.seq (.blk 0 c104_8) (.seq c104_9 .ret)))))) [.t p2, .t p3] 3
/- daybook/value.read -/
def c106_0 : CC := .reg [
 O p2 (.alloc 34 [I 0, I 0, (.str [])]) 0,
 O p3 (.alloc 4 [(.bool false)]) 1] false
def c106_1 : CC := .reg [
 O p18 (.mv X0) 0,
 O p19 (.bin .eql .num X18 (.c (.str []))) 1] false
def c106_2 : CC := .reg [
 O p20 (.build [I 0, I 0, (.str [])] []) 0,
 ON (.store 3 X2 X20) 1,
 ON (.store 1 X3 (.c (.bool false))) 2] false
def c106_3 : CC := .reg [
 O p21 (.mv X0) 0,
 O p22 (.slices X21 (some (.c (I 1))) none) 1,
 O p4 (.mv X22) 2] false
def c106_4 : CC := .reg [
 O p23 (.mv X0) 0,
 O p24 (.index X23 (.c (I 0))) 1] false
def c106_5 : CC := .reg [
 O p26 (.bin .eql .num X24 (.c (.int .u8 116))) 0,
 O p25 (.mv X26) 1] false
def c106_6 : CC := .reg [
 O p27 (.bin .eql .num X24 (.c (.int .u8 102))) 0,
 O p25 (.mv X27) 1] false
def c106_7 : CC := .reg [
 O p28 (.mv X0) 0,
 O p29 (.len 0 X28) 1,
 O p30 (.bin .sub .num (.c (I 5)) X29) 2,
 O p31 (.build [I 0, I 0, (.str [])] [(0, 1, (.c (I 2))), (1, 1, X30)]) 3,
 O p32 (.mv X0) 4,
 O p33 (.bin .eql .num X32 (.c (.str [116, 114, 117, 101]))) 5,
 O p34 (.mv X33) 6,
 OG p35 p34 false (.mv X0) 7,
 OG p36 p34 false (.bin .eql .num X35 (.c (.str [102, 97, 108, 115, 101]))) 8,
 O p37 (.pick X34 (.c (.bool true)) X36) 9,
 ON (.store 3 X2 X31) 10,
 ON (.store 1 X3 X37) 11] false
def c106_8 : CC := .reg [
 O p39 (.bin .eql .num X24 (.c (.int .u8 64))) 0,
 O p38 (.mv X39) 1] false
def c106_9 : CC := .reg [
 O p41 (.mv X4) 0,
 O p42 (.call (.c (.fn 149 [])) [X41]) 1,
 O p40 (.mv X42) 2,
 O p43 (.ext 0 X40) 3,
 O p44 (.ext 1 X40) 4,
 O p5 (.mv X43) 5,
 O p6 (.mv X44) 6] false
def c106_10 : CC := .reg [
 O p45 (.mv X5) 0,
 O p46 (.build [I 0, I 0, (.str [])] [(0, 1, (.c (I 5))), (1, 1, X45)]) 1,
 O p47 (.mv X6) 2,
 ON (.store 3 X2 X46) 3,
 ON (.store 1 X3 X47) 4] false
def c106_11 : CC := .reg [
 O p49 (.bin .eql .num X24 (.c (.int .u8 33))) 0,
 O p48 (.mv X49) 1] false
def c106_12 : CC := .reg [
 O p51 (.mv X4) 0,
 O p52 (.call (.c (.fn 149 [])) [X51]) 1,
 O p50 (.mv X52) 2,
 O p53 (.ext 0 X50) 3,
 O p54 (.ext 1 X50) 4,
 O p7 (.mv X53) 5,
 O p8 (.mv X54) 6] false
def c106_13 : CC := .reg [
 O p55 (.mv X7) 0,
 O p56 (.build [I 0, I 0, (.str [])] [(0, 1, (.c (I 6))), (1, 1, X55)]) 1,
 O p57 (.mv X8) 2,
 ON (.store 3 X2 X56) 3,
 ON (.store 1 X3 X57) 4] false
def c106_14 : CC := .reg [
 O p59 (.bin .eql .num X24 (.c (.int .u8 58))) 0,
 O p58 (.mv X59) 1] false
def c106_15 : CC := .reg [
 O p60 (.mv X4) 0,
 O p61 (.build [I 0, I 0, (.str [])] [(0, 1, (.c (I 7))), (2, 1, X60)]) 1,
 ON (.store 3 X2 X61) 2,
 ON (.store 1 X3 (.c (.bool true))) 3] false
def c106_16 : CC := .reg [
 O p63 (.bin .eql .num X24 (.c (.int .u8 35))) 0,
 O p62 (.mv X63) 1] false
def c106_17 : CC := .reg [
 O p9 (.alloc 148 [.nilp, .nils]) 0] false
def c106_18 : CC := .reg [
 O p64 (.mv X4) 0,
 O p65 (.call (.c (.fn 150 [])) [X64]) 1] false
def c106_19 : CC := .reg [
 O p10 (.mv X66) 0] false
def c106_20 : CC := .reg [
 O p11 (.mv X67) 0] false
def c106_21 : CC := .reg [
 O p68 (.mv X11) 0,
 O p69 (.un .not X68) 1] false
def c106_22 : CC := .reg [
 O p70 (.build [I 0, I 0, (.str [])] []) 0,
 ON (.store 3 X2 X70) 1,
 ON (.store 1 X3 (.c (.bool false))) 2] false
def c106_23 : CC := .reg [
 O p71 (.mv X10) 0,
 O p72 (.call (.c (.fn 151 [])) [X9, X71]) 1] false
def c106_24 : CC := .rng X65 [p66, p67] (.seq c106_19 c106_20) (.blk 2 (.seq (.seq c106_21 (.cond X69 (.seq c106_22 .ret) .skip)) c106_23))
def c106_25 : CC := .reg [
 O p73 (.call (.c (.fn 86 [])) [X9]) 0,
 O p74 (.build [I 0, I 0, (.str [])] [(0, 1, (.c (I 4))), (2, 1, X73)]) 1,
 ON (.store 3 X2 X74) 2,
 ON (.store 1 X3 (.c (.bool true))) 3] false
def c106_26 : CC := .reg [
 O p76 (.bin .eql .num X24 (.c (.int .u8 34))) 0,
 O p75 (.mv X76) 1] false
def c106_27 : CC := .reg [
 O p78 (.mv X4) 0,
 O p79 (.call (.c (.fn 152 [])) [X78, (.c (.str [34]))]) 1,
 O p77 (.mv X79) 2,
 O p80 (.ext 0 X77) 3,
 O p81 (.ext 1 X77) 4,
 O p12 (.mv X80) 5,
 O p13 (.mv X81) 6] false
def c106_28 : CC := .reg [
 O p83 (.mv X12) 0,
 O p84 (.call (.c (.fn 153 [])) [X83]) 1,
 O p82 (.mv X84) 2,
 O p85 (.ext 0 X82) 3,
 O p86 (.ext 1 X82) 4,
 O p14 (.mv X85) 5,
 O p15 (.mv X86) 6] false
def c106_29 : CC := .reg [
 O p87 (.mv X14) 0,
 O p88 (.build [I 0, I 0, (.str [])] [(0, 1, (.c (I 3))), (2, 1, X87)]) 1,
 O p89 (.mv X13) 2,
 O p90 (.mv X89) 3,
 OG p91 p90 true (.mv X15) 4,
 O p92 (.pick X90 X91 (.c (.bool false))) 5,
 ON (.store 3 X2 X88) 6,
 ON (.store 1 X3 X92) 7] false
def c106_30 : CC := .reg [
 O p94 (.mv X0) 0,
 O p95 (.call (.c (.fn 149 [])) [X94]) 1,
 O p93 (.mv X95) 2,
 O p96 (.ext 0 X93) 3,
 O p97 (.ext 1 X93) 4,
 O p16 (.mv X96) 5,
 O p17 (.mv X97) 6] false
def c106_31 : CC := .reg [
 O p98 (.mv X16) 0,
 O p99 (.build [I 0, I 0, (.str [])] [(0, 1, (.c (I 1))), (1, 1, X98)]) 1,
 O p100 (.mv X17) 2,
 ON (.store 3 X2 X99) 3,
 ON (.store 1 X3 X100) 4] false
def F106 : CF := .mk 101 [p0] 7 (.seq c106_0 (.seq (.seq c106_1 (.cond X19 (.seq c106_2 .ret) .skip)) (.seq c106_3 (.seq (.seq c106_4 (.blk 0 (.seq (.seq c106_5 (.cond X25 .skip c106_6)) (.cond X25 (.seq c106_7 .ret) (.seq c106_8 (.cond X38 (.seq c106_9 (.seq c106_10 .ret)) (.seq c106_11 (.cond X48 (.seq c106_12 (.seq c106_13 .ret)) (.seq c106_14 (.cond X58 (.seq c106_15 .ret) (.seq c106_16 (.cond X62 (.seq c106_17 (.seq (.seq c106_18 (.blk 1 c106_24)) (.seq c106_25 .ret))) (.seq c106_26 (.cond X75 (.seq c106_27 (.seq c106_28 (.seq c106_29 .ret))) .skip)))))))))))))) (.seq c106_30 (.seq c106_31 .ret)))))) [.cell p2 3 true, .cell p3 1 false] 3
/- daybook/value.may -/
def c107_0 : CC := .reg [
 O p1 (.box 34 X0) 0,
 O p2 (.mv (.c (.bool false))) 1] false
def c107_1 : CC := .reg [
 O p3 (.faddr 0 X1) 0,
 O p4 (.load 1 false X3) 1] false
def c107_2 : CC := .reg [
 O p6 (.bin .eql .num X4 (.c (I 2))) 0,
 O p5 (.mv X6) 1] false
def c107_3 : CC := .reg [
 O p8 (.bin .eql .num X4 (.c (I 1))) 0,
 O p7 (.mv X8) 1] false
def c107_4 : CC := .reg [
 O p9 (.bin .eql .num X4 (.c (I 6))) 0,
 O p7 (.mv X9) 1] false
def c107_5 : CC := .reg [
 O p11 (.bin .eql .num X4 (.c (I 5))) 0,
 O p10 (.mv X11) 1] false
def c107_6 : CC := .reg [
 O p13 (.bin .eql .num X4 (.c (I 3))) 0,
 O p12 (.mv X13) 1] false
def c107_7 : CC := .reg [
 O p14 (.bin .eql .num X4 (.c (I 4))) 0,
 O p12 (.mv X14) 1] false
def c107_8 : CC := .reg [
 O p16 (.bin .eql .num X4 (.c (I 7))) 0,
 O p15 (.mv X16) 1] false
def c107_9 : CC := .reg [
 O p17 (.faddr 1 X1) 0,
 O p18 (.load 1 false X17) 1,
 O p19 (.bin .lss .num X18 (.c (I 0))) 2,
 O p20 (.mv X19) 3,
 OG p21 p20 false (.faddr 1 X1) 4,
 OG p22 p20 false (.load 1 false X21) 5,
 OG p23 p20 false (.bin .gtr .num X22 (.c (I 1))) 6,
 O p24 (.pick X20 (.c (.bool true)) X23) 7] false
def c107_10 : CC := .reg [
 O p2 (.mv (.c (.bool false))) 0] false
def c107_11 : CC := .reg [
 O p25 (.faddr 2 X1) 0,
 O p26 (.load 1 false X25) 1,
 O p27 (.bin .eql .num X26 (.c (.str []))) 2,
 O p2 (.mv X27) 3] false
def c107_12 : CC := .reg [
 O p28 (.faddr 2 X1) 0,
 O p29 (.load 1 false X28) 1,
 O p30 (.bin .eql .num X29 (.c (.str []))) 2,
 O p31 (.mv X30) 3,
 OG p32 p31 true (.faddr 1 X1) 4,
 OG p33 p31 true (.load 1 false X32) 5,
 OG p34 p31 true (.bin .geq .num X33 (.c (I 0))) 6,
 O p35 (.pick X31 X34 (.c (.bool false))) 7,
 O p36 (.mv X35) 8,
 OG p37 p36 true (.faddr 1 X1) 9,
 OG p38 p36 true (.load 1 false X37) 10,
 OG p39 p36 true (.bin .lss .num X38 (.c (I 9007199254740992))) 11,
 O p40 (.pick X36 X39 (.c (.bool false))) 12,
 O p2 (.mv X40) 13] false
def c107_13 : CC := .reg [
 O p41 (.faddr 1 X1) 0,
 O p42 (.load 1 false X41) 1,
 O p43 (.bin .eql .num X42 (.c (I 0))) 2,
 O p44 (.mv X43) 3,
 OG p45 p44 true (.faddr 2 X1) 4,
 OG p46 p44 true (.load 1 false X45) 5,
 OG p47 p44 true (.len 0 X46) 6,
 OG p48 p44 true (.bin .leq .num X47 (.c (I 1000))) 7,
 O p49 (.pick X44 X48 (.c (.bool false))) 8,
 O p2 (.mv X49) 9] false
def c107_14 : CC := .reg [
 O p50 (.faddr 1 X1) 0,
 O p51 (.load 1 false X50) 1,
 O p52 (.bin .eql .num X51 (.c (I 0))) 2,
 O p53 (.mv X52) 3,
 OG p54 p53 true (.faddr 2 X1) 4,
 OG p55 p53 true (.load 1 false X54) 5,
 OG p56 p53 true (.call (.c (.fn 154 [])) [X55]) 6,
 O p57 (.pick X53 X56 (.c (.bool false))) 7,
 O p2 (.mv X57) 8] false
def c107_15 : CC := .reg [
 O p2 (.mv (.c (.bool false))) 0] false
def F107 : CF := .mk 58 [p0] 6 (.seq c107_0 (.seq (.seq c107_1 (.blk 0 (.seq (.blk 5 (.seq (.blk 4 (.seq (.blk 3 (.seq (.blk 2 (.seq (.blk 1 (.seq (.seq (.seq c107_2 (.cond X5 (.exit 1) .skip)) (.seq (.seq (.seq c107_3 (.cond X7 .skip c107_4)) (.cond X7 (.exit 2) .skip)) (.seq (.seq c107_5 (.cond X10 (.exit 3) .skip)) (.seq (.seq (.seq c107_6 (.cond X12 .skip c107_7)) (.cond X12 (.exit 4) .skip)) (.seq c107_8 (.cond X15 (.exit 5) .skip)))))) (.exit 0))) (.seq c107_9 (.cond X24 (.seq c107_10 .ret) .skip)))) (.seq (.seq c107_11 .ret) (.exit 0)))) (.seq (.seq c107_12 .ret) (.exit 0)))) (.seq (.seq c107_13 .ret) (.exit 0)))) (.seq (.seq c107_14 .ret) (.exit 0))))) (.seq c107_15 .ret))) [.t p2] 1
/- daybook/text.Named$1 -/
def c108_0 : CC := .reg [
 O p3 (.mv (.c (.bool false))) 0] false
def c108_1 : CC := .reg [
 O p4 (.mv X0) 0,
 O p5 (.load 1 false X1) 1,
 O p6 (.len 0 X5) 2,
 O p7 (.bin .lss .num X4 X6) 3,
 O p8 (.mv X7) 4,
 OG p9 p8 true (.load 1 false X1) 5,
 OG p10 p8 true (.mv X0) 6,
 OG p11 p8 true (.index X9 X10) 7,
 OG p12 p8 true (.bin .geq .num X11 (.c (.int .u8 48))) 8,
 O p13 (.pick X8 X12 (.c (.bool false))) 9,
 O p14 (.mv X13) 10,
 OG p15 p14 true (.load 1 false X1) 11,
 OG p16 p14 true (.mv X0) 12,
 OG p17 p14 true (.index X15 X16) 13,
 OG p18 p14 true (.bin .leq .num X17 (.c (.int .u8 57))) 14,
 O p19 (.pick X14 X18 (.c (.bool false))) 15,
 O p3 (.mv X19) 16] false
def F108 : CF := .mk 20 [p0, p1] 5 (.seq c108_0 (.seq c108_1 .ret)) [.t p3] 0
/- daybook/shape.is -/
def c112_0 : CC := .reg [
 O p2 (.box 36 X0) 0,
 O p4 (.mv (.c (.bool false))) 1] false
def c112_1 : CC := .reg [
 O p5 (.faddr 0 X2) 0,
 O p6 (.load 1 false X5) 1,
 O p7 (.bin .eql .num X6 (.c (I 2))) 2,
 O p8 (.mv X7) 3,
 OG p9 p8 true (.faddr 4 X2) 4,
 OG p10 p8 true (.load 1 false X9) 5,
 OG p11 p8 true (.mv X1) 6,
 OG p12 p8 true (.bin .eql .num X10 X11) 7,
 O p13 (.pick X8 X12 (.c (.bool false))) 8,
 O p4 (.mv X13) 9] false
def F112 : CF := .mk 14 [p0, p1] 4 (.seq c112_0 (.seq c112_1 .ret)) [.t p4] 3
/- daybook/shape.headed -/
def c113_0 : CC := .reg [
 O p1 (.box 36 X0) 0,
 O p2 (.alloc 44 [(.bool false), (.str []), (.bool false), I 0, (.bool false), I 0, I 0, (.str []), (.bool false), .nils, I 0]) 1,
 O p3 (.mv (.c (.bool false))) 2] false
def c113_1 : CC := .reg [
 O p4 (.alloc 44 [(.bool false), (.str []), (.bool false), I 0, (.bool false), I 0, I 0, (.str []), (.bool false), .nils, I 0]) 0] false
def c113_2 : CC := .reg [
 O p7 (.load 8 true X1) 0,
 O p8 (.bslice 36 8 [I 0, I 0, I 0, (.str []), (.str []), .nils, I 0, I 0] 1 [(0, X7)]) 1,
 O p5 (.mv X8) 2] false
def c113_3 : CC := .reg [
 O p9 (.faddr 0 X1) 0,
 O p10 (.load 1 false X9) 1,
 O p11 (.bin .eql .num X10 (.c (I 3))) 2] false
def c113_4 : CC := .reg [
 O p12 (.faddr 5 X1) 0,
 O p13 (.load 1 false X12) 1,
 O p5 (.mv X13) 2] false
def c113_5 : CC := .reg [
 O p14 (.mv X5) 0,
 O p15 (.len 1 X14) 1,
 O p16 (.bin .lss .num X15 (.c (I 2))) 2] false
def c113_6 : CC := .reg [
 O p17 (.load 11 true X4) 0,
 ON (.store 11 X2 X17) 1,
 O p3 (.mv (.c (.bool false))) 2] false
def c113_7 : CC := .reg [
 O p18 (.mv X5) 0,
 O p19 (.iaddr 8 X18 (.c (I 0))) 1,
 O p20 (.faddr 0 X19) 2,
 O p21 (.load 1 false X20) 3,
 O p22 (.bin .neq .num X21 (.c (I 1))) 4,
 O p23 (.mv X22) 5,
 OG p24 p23 false (.mv X5) 6,
 OG p25 p23 false (.iaddr 8 X24 (.c (I 0))) 7,
 OG p26 p23 false (.faddr 1 X25) 8,
 OG p27 p23 false (.faddr 0 X26) 9,
 OG p28 p23 false (.load 1 false X27) 10,
 OG p29 p23 false (.bin .neq .num X28 (.c (I 7))) 11,
 O p30 (.pick X23 (.c (.bool true)) X29) 12] false
def c113_8 : CC := .reg [
 O p31 (.load 11 true X4) 0,
 ON (.store 11 X2 X31) 1,
 O p3 (.mv (.c (.bool false))) 2] false
def c113_9 : CC := .reg [
 O p32 (.mv X5) 0,
 O p33 (.iaddr 8 X32 (.c (I 0))) 1,
 O p34 (.faddr 1 X33) 2,
 O p35 (.faddr 2 X34) 3,
 O p36 (.load 1 false X35) 4,
 O p37 (.faddr 1 X4) 5,
 ON (.store 1 X37 X36) 6] false
def c113_10 : CC := .reg [
 O p38 (.mv X5) 0,
 O p39 (.slice 8 X38 (some (.c (I 1))) none none) 1,
 O p40 (.call (.c (.fn 157 [])) [X4, X39]) 2,
 O p6 (.mv X40) 3] false
def c113_11 : CC := .reg [
 O p41 (.load 11 true X4) 0,
 O p42 (.mv X6) 1,
 ON (.store 11 X2 X41) 2,
 O p3 (.mv X42) 3] false
def F113 : CF := .mk 43 [p0] 6 (.seq c113_0 (.seq c113_1 (.seq c113_2 (.seq (.seq c113_3 (.cond X11 (.seq c113_4 (.seq c113_5 (.cond X16 (.seq c113_6 .ret) .skip))) .skip)) (.seq (.seq c113_7 (.cond X30 (.seq c113_8 .ret) .skip)) (.seq c113_9 (.seq c113_10 (.seq c113_11 .ret)))))))) [.cell p2 11 true, .t p3] 3
/- daybook/shape.whole -/
def c114_0 : CC := .reg [
 O p1 (.box 36 X0) 0,
 O p2 (.mv (.c (I 0))) 1,
 O p3 (.mv (.c (.bool false))) 2] false
def c114_1 : CC := .reg [
 O p4 (.faddr 1 X1) 0,
 O p5 (.faddr 1 X4) 1,
 O p6 (.load 1 false X5) 2,
 O p7 (.faddr 0 X1) 3,
 O p8 (.load 1 false X7) 4,
 O p9 (.bin .eql .num X8 (.c (I 1))) 5,
 O p10 (.mv X9) 6,
 OG p11 p10 true (.faddr 1 X1) 7,
 OG p12 p10 true (.faddr 0 X11) 8,
 OG p13 p10 true (.load 1 false X12) 9,
 OG p14 p10 true (.bin .eql .num X13 (.c (I 1))) 10,
 O p15 (.pick X10 X14 (.c (.bool false))) 11,
 O p16 (.mv X15) 12,
 OG p17 p16 true (.faddr 1 X1) 13,
 OG p18 p16 true (.faddr 1 X17) 14,
 OG p19 p16 true (.load 1 false X18) 15,
 OG p20 p16 true (.bin .geq .num X19 (.c (I 1))) 16,
 O p21 (.pick X16 X20 (.c (.bool false))) 17,
 O p22 (.mv X21) 18,
 OG p23 p22 true (.faddr 1 X1) 19,
 OG p24 p22 true (.faddr 1 X23) 20,
 OG p25 p22 true (.load 1 false X24) 21,
 OG p26 p22 true (.bin .leq .num X25 (.c (I 1000))) 22,
 O p27 (.pick X22 X26 (.c (.bool false))) 23,
 O p2 (.mv X6) 24,
 O p3 (.mv X27) 25] true
def F114 : CF := .mk 28 [p0] 5 (.seq c114_0 (.seq c114_1 .ret)) [.t p2, .t p3] 3
end Go.EV
