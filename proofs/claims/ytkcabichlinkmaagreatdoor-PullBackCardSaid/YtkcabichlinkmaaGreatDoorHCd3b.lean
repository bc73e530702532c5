/- Compiled functions, by program. -/
import Derived.Test.YtkcabichlinkmaaGreatDoorHM7
namespace Go.EV
/- daybook/shape.lists$1 -/
def c115_0 : CC := .reg [
 O p3 (.box 187 X0) 0] false
def c115_1 : CC := .reg [
 O p8 (.load 1 false X3) 0,
 O p9 (.load 1 false X1) 1,
 O p10 (.load 1 false X2) 2,
 O p11 (.call X8 [X9, X10]) 3,
 O p12 (.un .not X11) 4,
 O p13 (.mv X12) 5,
 OG p14 p13 false (.load 1 false X1) 6,
 OG p15 p13 false (.bin .gtr .num X14 (.c (I 20))) 7,
 O p16 (.pick X13 (.c (.bool true)) X15) 8] false
def c115_2 : CC := .reg [
 O p17 (.load 1 false X2) 0,
 O p18 (.len 1 X17) 1,
 O p19 (.mv (.c (I 0))) 2] false
def c115_3 : CC := .reg [
 O p20 (.bin .lss .num X19 X18) 0] false
def c115_4 : CC := .reg [
 O p21 (.iaddr 11 X17 X19) 0,
 O p22 (.load 11 true X21) 1,
 O p5 (.alloc 44 [(.bool false), (.str []), (.bool false), I 0, (.bool false), I 0, I 0, (.str []), (.bool false), .nils, I 0]) 2,
 ON (.store 11 X5 X22) 3] false
def c115_5 : CC := .reg [
 O p23 (.faddr 9 X5) 0,
 O p24 (.load 1 false X23) 1,
 O p25 (.load 1 false X1) 2,
 O p26 (.bin .add .num X25 (.c (I 1))) 3,
 O p27 (.call (.c (.fn 73 [])) [X24, X26]) 4] false
def c115_6 : CC := .reg [
 O p6 (.mv X28) 0] false
def c115_7 : CC := .reg [
 O p7 (.mv X29) 0] false
def c115_8 : CC := .reg [
 O p30 (.faddr 8 X5) 0,
 O p31 (.load 1 false X30) 1,
 O p32 (.mv X31) 2,
 OG p33 p32 true (.load 1 false X3) 3,
 OG p34 p32 true (.mv X6) 4,
 OG p35 p32 true (.mv X7) 5,
 OG p36 p32 true (.call X33 [X34, X35]) 6,
 OG p37 p32 true (.un .not X36) 7,
 O p38 (.pick X32 X37 (.c (.bool false))) 8] false
def c115_9 : CC := .rng X27 [p28, p29] (.seq c115_6 c115_7) (.blk 3 (.seq c115_8 (.cond X38 .ret .skip)))
def c115_10 : CC := .reg [
 O p39 (.bin .add .num X19 (.c (I 1))) 0,
 O p19 (.mv X39) 1] false
def c115_11 : CC := .loop (.seq c115_3 (.seq (.cond X20 .skip (.exit 0)) (.seq (.blk 1 (.seq c115_4 (.seq c115_5 (.blk 2 c115_9)))) c115_10)))
def F115 : CF := .mk 40 [p0, p1, p2] 6 (.seq c115_0 (.seq (.seq c115_1 (.cond X16 .ret .skip)) (.seq c115_2 (.blk 0 c115_11)))) [] 0
/- daybook/shape.word -/
def c116_0 : CC := .reg [
 O p2 (.alloc 34 [I 0, I 0, (.str [])]) 0] false
def c116_1 : CC := .reg [
 O p3 (.mv X0) 0,
 O p4 (.build [I 0, I 0, (.str [])] [(0, 1, (.c (I 7))), (2, 1, X3)]) 1,
 ON (.store 3 X2 X4) 2] false
def F116 : CF := .mk 5 [p0] 3 (.seq c116_0 (.seq c116_1 .ret)) [.cell p2 3 true] 3
/- slices.IndexFunc[[]daybook/api.Item,daybook/api.Item] -/
def c117_0 : CC := .reg [
 O p4 (.mv (.c (I 0))) 0] false
def c117_1 : CC := .reg [
 O p6 (.mv X0) 0,
 O p7 (.len 1 X6) 1,
 O p8 (.mv (.c (I 0))) 2] false
def c117_2 : CC := .reg [
 O p9 (.bin .lss .num X8 X7) 0] false
def c117_3 : CC := .reg [
 O p10 (.mv X8) 0,
 O p5 (.mv X10) 1] false
def c117_4 : CC := .reg [
 O p11 (.mv X1) 0,
 O p12 (.mv X0) 1,
 O p13 (.mv X5) 2,
 O p14 (.iaddr 11 X12 X13) 3,
 O p15 (.load 11 true X14) 4,
 O p16 (.call X11 [X15]) 5] false
def c117_5 : CC := .reg [
 O p17 (.mv X5) 0,
 O p4 (.mv X17) 1] false
def c117_6 : CC := .reg [
 O p18 (.bin .add .num X8 (.c (I 1))) 0,
 O p8 (.mv X18) 1] false
def c117_7 : CC := .loop (.seq c117_2 (.seq (.cond X9 .skip (.exit 0)) (.seq (.blk 1 (.seq c117_3 (.seq c117_4 (.cond X16 (.seq c117_5 .ret) .skip)))) c117_6)))
def c117_8 : CC := .reg [
 O p4 (.mv (.c (I (-1)))) 0] false
def F117 : CF := .mk 19 [p0, p1] 5 (.seq c117_0 (.seq (.seq c117_1 (.blk 0 c117_7)) (.seq c117_8 .ret))) [.t p4] 2
/- daybook/shape.named -/
def c118_0 : CC := .reg [
 O p2 (.alloc 36 [I 0, I 0, I 0, (.str []), (.str []), .nils, I 0, I 0]) 0] false
def c118_1 : CC := .reg [
 O p3 (.mv X0) 0,
 O p4 (.build [I 0, I 0, I 0, (.str []), (.str []), .nils, I 0, I 0] [(0, 1, (.c (I 2))), (4, 1, X3)]) 1,
 ON (.store 8 X2 X4) 2] false
def F118 : CF := .mk 5 [p0] 3 (.seq c118_0 (.seq c118_1 .ret)) [.cell p2 8 true] 3
/- daybook/shape.number -/
def c119_0 : CC := .reg [
 O p2 (.alloc 36 [I 0, I 0, I 0, (.str []), (.str []), .nils, I 0, I 0]) 0] false
def c119_1 : CC := .reg [
 O p3 (.mv X0) 0,
 O p4 (.build [I 0, I 0, (.str [])] [(0, 1, (.c (I 1))), (1, 1, X3)]) 1,
 O p5 (.call (.c (.fn 158 [])) [X4]) 2,
 ON (.store 8 X2 X5) 3] false
def F119 : CF := .mk 6 [p0] 3 (.seq c119_0 (.seq c119_1 .ret)) [.cell p2 8 true] 3
/- daybook/shape.head -/
def c120_0 : CC := .reg [
 O p1 (.box 44 X0) 0,
 O p2 (.alloc 36 [I 0, I 0, I 0, (.str []), (.str []), .nils, I 0, I 0]) 1] false
def c120_1 : CC := .reg [
 O p4 (.faddr 1 X1) 0,
 O p5 (.load 1 false X4) 1,
 O p6 (.call (.c (.fn 116 [])) [X5]) 2,
 O p7 (.call (.c (.fn 158 [])) [X6]) 3,
 O p8 (.bslice 36 8 [I 0, I 0, I 0, (.str []), (.str []), .nils, I 0, I 0] 1 [(0, X7)]) 4,
 O p3 (.mv X8) 5] false
def c120_2 : CC := .reg [
 O p9 (.faddr 2 X1) 0,
 O p10 (.load 1 false X9) 1] false
def c120_3 : CC := .reg [
 O p11 (.mv X3) 0,
 O p12 (.call (.c (.fn 118 [])) [(.c (.str [98, 97, 99, 107]))]) 1,
 O p13 (.bslice 36 8 [I 0, I 0, I 0, (.str []), (.str []), .nils, I 0, I 0] 1 [(0, X12)]) 2,
 O p14 (.append 36 8 X11 X13) 3,
 O p3 (.mv X14) 4] false
def c120_4 : CC := .reg [
 O p15 (.faddr 3 X1) 0,
 O p16 (.load 1 false X15) 1,
 O p17 (.bin .gtr .num X16 (.c (I 0))) 2] false
def c120_5 : CC := .reg [
 O p18 (.mv X3) 0,
 O p20 (.faddr 3 X1) 2,
 .mk (some p21) none (.load 1 false X20) [3] 3,
 O p19 (.call (.c (.fn 118 [])) [(.c (.str [108, 105, 109, 105, 116]))]) 1,
 O p22 (.call (.c (.fn 119 [])) [X21]) 4,
 O p23 (.bslice 36 8 [I 0, I 0, I 0, (.str []), (.str []), .nils, I 0, I 0] 2 [(0, X19), (1, X22)]) 5,
 O p24 (.append 36 8 X18 X23) 6,
 O p3 (.mv X24) 7] true
def c120_6 : CC := .reg [
 O p25 (.faddr 4 X1) 0,
 O p26 (.load 1 false X25) 1] false
def c120_7 : CC := .reg [
 O p27 (.mv X3) 0,
 O p29 (.faddr 5 X1) 2,
 .mk (some p30) none (.load 3 true X29) [3] 3,
 O p28 (.call (.c (.fn 118 [])) [(.c (.str [100, 101, 102, 97, 117, 108, 116]))]) 1,
 O p31 (.call (.c (.fn 158 [])) [X30]) 4,
 O p32 (.bslice 36 8 [I 0, I 0, I 0, (.str []), (.str []), .nils, I 0, I 0] 2 [(0, X28), (1, X31)]) 5,
 O p33 (.append 36 8 X27 X32) 6,
 O p3 (.mv X33) 7] true
def c120_8 : CC := .reg [
 O p34 (.mv X3) 0,
 O p35 (.len 1 X34) 1,
 O p36 (.bin .eql .num X35 (.c (I 1))) 2] false
def c120_9 : CC := .reg [
 O p37 (.mv X3) 0,
 O p38 (.iaddr 8 X37 (.c (I 0))) 1,
 O p39 (.load 8 true X38) 2,
 ON (.store 8 X2 X39) 3] false
def c120_10 : CC := .reg [
 O p40 (.mv X3) 0,
 O p41 (.build [I 0, I 0, I 0, (.str []), (.str []), .nils, I 0, I 0] [(0, 1, (.c (I 3))), (5, 1, X40)]) 1,
 ON (.store 8 X2 X41) 2] false
def F120 : CF := .mk 42 [p0] 6 (.seq c120_0 (.seq c120_1 (.seq (.seq c120_2 (.cond X10 c120_3 .skip)) (.seq (.seq c120_4 (.cond X17 c120_5 .skip)) (.seq (.seq c120_6 (.cond X26 c120_7 .skip)) (.seq (.seq c120_8 (.cond X36 (.seq c120_9 .ret) .skip)) (.seq c120_10 .ret))))))) [.cell p2 8 true] 3
/- daybook/daybookref01.Word -/
def c121_0 : CC := .reg [
 O p2 (.mv (.c (.bool false))) 0] false
def c121_1 : CC := .reg [
 O p5 (.mv X0) 0,
 O p6 (.len 0 X5) 1,
 O p7 (.bin .lss .num X6 (.c (I 1))) 2,
 O p8 (.mv X7) 3,
 OG p9 p8 false (.mv X0) 4,
 OG p10 p8 false (.len 0 X9) 5,
 OG p11 p8 false (.bin .gtr .num X10 (.c (I 64))) 6,
 O p12 (.pick X8 (.c (.bool true)) X11) 7,
 O p13 (.mv X12) 8,
 OG p14 p13 false (.mv X0) 9,
 OG p15 p13 false (.index X14 (.c (I 0))) 10,
 OG p16 p13 false (.call (.c (.fn 159 [])) [X15]) 11,
 OG p17 p13 false (.un .not X16) 12,
 O p18 (.pick X13 (.c (.bool true)) X17) 13] false
def c121_2 : CC := .reg [
 O p2 (.mv (.c (.bool false))) 0] false
def c121_3 : CC := .reg [
 O p3 (.mv (.c (I 0))) 0] false
def c121_4 : CC := .reg [
 O p19 (.mv X3) 0,
 O p20 (.mv X0) 1,
 O p21 (.len 0 X20) 2,
 O p22 (.bin .lss .num X19 X21) 3] false
def c121_5 : CC := .reg [
 O p25 (.mv X0) 0,
 O p26 (.mv X3) 1,
 O p27 (.index X25 X26) 2,
 O p4 (.mv X27) 3] false
def c121_6 : CC := .reg [
 O p28 (.mv X4) 0,
 O p29 (.call (.c (.fn 159 [])) [X28]) 1,
 O p30 (.un .not X29) 2,
 O p31 (.mv X30) 3,
 OG p32 p31 true (.mv X4) 4,
 OG p33 p31 true (.call (.c (.fn 160 [])) [X32]) 5,
 OG p34 p31 true (.un .not X33) 6,
 O p35 (.pick X31 X34 (.c (.bool false))) 7,
 O p36 (.mv X35) 8,
 OG p37 p36 true (.mv X4) 9,
 OG p38 p36 true (.bin .neq .num X37 (.c (.int .u8 46))) 10,
 O p39 (.pick X36 X38 (.c (.bool false))) 11,
 O p40 (.mv X39) 12,
 OG p41 p40 true (.mv X4) 13,
 OG p42 p40 true (.bin .neq .num X41 (.c (.int .u8 95))) 14,
 O p43 (.pick X40 X42 (.c (.bool false))) 15,
 O p44 (.mv X43) 16,
 OG p45 p44 true (.mv X4) 17,
 OG p46 p44 true (.bin .neq .num X45 (.c (.int .u8 45))) 18,
 O p47 (.pick X44 X46 (.c (.bool false))) 19,
 O p48 (.mv X47) 20,
 OG p49 p48 true (.mv X4) 21,
 OG p50 p48 true (.bin .neq .num X49 (.c (.int .u8 47))) 22,
 O p51 (.pick X48 X50 (.c (.bool false))) 23] false
def c121_7 : CC := .reg [
 O p2 (.mv (.c (.bool false))) 0] false
def c121_8 : CC := .reg [
 O p23 (.mv X3) 0,
 O p24 (.bin .add .num X23 (.c (I 1))) 1,
 O p3 (.mv X24) 2] false
def c121_9 : CC := .loop (.seq (.seq c121_4 (.cond X22 .skip (.exit 0))) (.seq (.blk 1 (.seq c121_5 (.seq c121_6 (.cond X51 (.seq c121_7 .ret) .skip)))) c121_8))
def c121_10 : CC := .reg [
 O p2 (.mv (.c (.bool true))) 0] false
def F121 : CF := .mk 52 [p0] 6 (.seq c121_0 (.seq (.seq c121_1 (.cond X18 (.seq c121_2 .ret) .skip)) (.seq (.seq c121_3 (.blk 0 c121_9)) (.seq c121_10 .ret)))) [.t p2] 3
/- daybook/daybookref01.May -/
def c122_0 : CC := .reg [
 O p1 (.box 34 X0) 0,
 O p2 (.mv (.c (.bool false))) 1] false
def c122_1 : CC := .reg [
 O p3 (.faddr 0 X1) 0,
 O p4 (.load 1 false X3) 1] false
def c122_2 : CC := .reg [
 O p6 (.bin .eql .num X4 (.c (I 1))) 0,
 O p5 (.mv X6) 1] false
def c122_3 : CC := .reg [
 O p7 (.bin .eql .num X4 (.c (I 6))) 0,
 O p5 (.mv X7) 1] false
def c122_4 : CC := .reg [
 O p8 (.faddr 2 X1) 0,
 O p9 (.load 1 false X8) 1,
 O p10 (.bin .eql .num X9 (.c (.str []))) 2,
 O p2 (.mv X10) 3] false
def c122_5 : CC := .reg [
 O p12 (.bin .eql .num X4 (.c (I 2))) 0,
 O p11 (.mv X12) 1] false
def c122_6 : CC := .reg [
 O p13 (.faddr 2 X1) 0,
 O p14 (.load 1 false X13) 1,
 O p15 (.bin .eql .num X14 (.c (.str []))) 2,
 O p16 (.mv X15) 3,
 OG p17 p16 true (.faddr 1 X1) 4,
 OG p18 p16 true (.load 1 false X17) 5,
 OG p19 p16 true (.bin .eql .num X18 (.c (I 0))) 6,
 OG p20 p16 true (.mv X19) 7,
 OG p21 p20 false (.faddr 1 X1) 8,
 OG p22 p20 false (.load 1 false X21) 9,
 OG p23 p20 false (.bin .eql .num X22 (.c (I 1))) 10,
 OG p24 p16 true (.pick X20 (.c (.bool true)) X23) 11,
 O p25 (.pick X16 X24 (.c (.bool false))) 12,
 O p2 (.mv X25) 13] false
def c122_7 : CC := .reg [
 O p27 (.bin .eql .num X4 (.c (I 3))) 0,
 O p26 (.mv X27) 1] false
def c122_8 : CC := .reg [
 O p28 (.bin .eql .num X4 (.c (I 4))) 0,
 O p26 (.mv X28) 1] false
def c122_9 : CC := .reg [
 O p29 (.faddr 1 X1) 0,
 O p30 (.load 1 false X29) 1,
 O p31 (.bin .eql .num X30 (.c (I 0))) 2,
 O p32 (.mv X31) 3,
 OG p33 p32 true (.faddr 2 X1) 4,
 OG p34 p32 true (.load 1 false X33) 5,
 OG p35 p32 true (.len 0 X34) 6,
 OG p36 p32 true (.bin .leq .num X35 (.c (I 1000))) 7,
 O p37 (.pick X32 X36 (.c (.bool false))) 8,
 O p2 (.mv X37) 9] false
def c122_10 : CC := .reg [
 O p39 (.bin .eql .num X4 (.c (I 5))) 0,
 O p38 (.mv X39) 1] false
def c122_11 : CC := .reg [
 O p40 (.faddr 2 X1) 0,
 O p41 (.load 1 false X40) 1,
 O p42 (.bin .eql .num X41 (.c (.str []))) 2,
 O p43 (.mv X42) 3,
 OG p44 p43 true (.faddr 1 X1) 4,
 OG p45 p43 true (.load 1 false X44) 5,
 OG p46 p43 true (.bin .geq .num X45 (.c (I 0))) 6,
 O p47 (.pick X43 X46 (.c (.bool false))) 7,
 O p48 (.mv X47) 8,
 OG p49 p48 true (.faddr 1 X1) 9,
 OG p50 p48 true (.load 1 false X49) 10,
 OG p51 p48 true (.bin .lss .num X50 (.c (I 9007199254740992))) 11,
 O p52 (.pick X48 X51 (.c (.bool false))) 12,
 O p2 (.mv X52) 13] false
def c122_12 : CC := .reg [
 O p54 (.bin .eql .num X4 (.c (I 7))) 0,
 O p53 (.mv X54) 1] false
def c122_13 : CC := .reg [
 O p55 (.faddr 1 X1) 0,
 O p56 (.load 1 false X55) 1,
 O p57 (.bin .eql .num X56 (.c (I 0))) 2,
 O p58 (.mv X57) 3,
 OG p59 p58 true (.faddr 2 X1) 4,
 OG p60 p58 true (.load 1 false X59) 5,
 OG p61 p58 true (.call (.c (.fn 121 [])) [X60]) 6,
 O p62 (.pick X58 X61 (.c (.bool false))) 7,
 O p2 (.mv X62) 8] false
def c122_14 : CC := .reg [
 O p2 (.mv (.c (.bool false))) 0] false
def F122 : CF := .mk 63 [p0] 6 (.seq c122_0 (.seq (.seq c122_1 (.blk 0 (.seq (.seq c122_2 (.cond X5 .skip c122_3)) (.cond X5 (.seq c122_4 .ret) (.seq c122_5 (.cond X11 (.seq c122_6 .ret) (.seq (.seq c122_7 (.cond X26 .skip c122_8)) (.cond X26 (.seq c122_9 .ret) (.seq c122_10 (.cond X38 (.seq c122_11 .ret) (.seq c122_12 (.cond X53 (.seq c122_13 .ret) .skip)))))))))))) (.seq c122_14 .ret))) [.t p2] 3
/- (*strings.Builder).WriteString -/
def c123_0 : CC := .reg [
 O p4 (.mv (.c (I 0))) 0,
 O p5 (.mv (.c .nili)) 1] false
def c123_1 : CC := .reg [
 O p6 (.mv X0) 0,
 O p7 (.call (.c (.fn 161 [])) [X6]) 1] false
def c123_2 : CC := .reg [
 O p8 (.mv X0) 0,
 O p9 (.mv X0) 1,
 O p10 (.nilck X9) 2,
 O p11 (.faddr 1 X10) 3,
 O p12 (.load 1 false X11) 4,
 O p13 (.mv X1) 5,
 O p14 (.append 5 1 X12 X13) 6,
 O p15 (.nilck X8) 7,
 O p16 (.faddr 1 X15) 8,
 ON (.store 1 X16 X14) 9] false
def c123_3 : CC := .reg [
 O p17 (.mv X1) 0,
 O p18 (.len 0 X17) 1,
 O p4 (.mv X18) 2,
 O p5 (.mv (.c .nili)) 3] false
def F123 : CF := .mk 19 [p0, p1] 5 (.seq c123_0 (.seq c123_1 (.seq c123_2 (.seq c123_3 .ret)))) [.t p4, .t p5] 0
/- (*daybook/text.writer).node -/
def c124_0 : CC := .reg [
 O p3 (.box 36 X1) 0] false
def c124_1 : CC := .reg [
 O p7 (.mv X0) 0,
 O p8 (.nilck X7) 1,
 O p9 (.faddr 3 X8) 2,
 O p10 (.load 1 false X9) 3,
 O p11 (.bin .add .num X10 (.c (I 1))) 4,
 O p12 (.nilck X7) 5,
 O p13 (.faddr 3 X12) 6,
 ON (.store 1 X13 X11) 7] false
def c124_2 : CC := .reg [
 O p14 (.mv X0) 0,
 O p15 (.nilck X14) 1,
 O p16 (.faddr 3 X15) 2,
 O p17 (.load 1 false X16) 3,
 O p18 (.bin .gtr .num X17 (.c (I 5000))) 4,
 O p19 (.mv X18) 5,
 OG p20 p19 false (.mv X0) 6,
 OG p21 p19 false (.nilck X20) 7,
 OG p22 p19 false (.faddr 2 X21) 8,
 OG p23 p19 false (.load 1 false X22) 9,
 OG p24 p19 false (.bin .gtr .num X23 (.c (I 50))) 10,
 O p25 (.pick X19 (.c (.bool true)) X24) 11] false
def c124_3 : CC := .reg [
 O p26 (.mv X0) 0,
 O p27 (.nilck X26) 1,
 O p28 (.faddr 4 X27) 2,
 ON (.store 1 X28 (.c (.bool true))) 3] false
def c124_4 : CC := .reg [
 O p29 (.mv X0) 0,
 O p30 (.nilck X29) 1,
 O p31 (.faddr 4 X30) 2,
 O p32 (.load 1 false X31) 3] false
def c124_5 : CC := .reg [
 O p33 (.faddr 0 X3) 0,
 O p34 (.load 1 false X33) 1] false
def c124_6 : CC := .reg [
 O p39 (.bin .eql .num X34 (.c (I 1))) 0,
 O p38 (.mv X39) 1] false
def c124_7 : CC := .reg [
 O p41 (.faddr 1 X3) 0,
 O p42 (.load 3 true X41) 1,
 O p43 (.call (.c (.fn 162 [])) [X42]) 2,
 O p40 (.mv X43) 3,
 O p44 (.ext 0 X40) 4,
 O p45 (.ext 1 X40) 5,
 O p4 (.mv X44) 6,
 O p5 (.mv X45) 7] false
def c124_8 : CC := .reg [
 O p46 (.mv X0) 0,
 O p47 (.mv X5) 1,
 O p48 (.bin .neq .num X47 (.c (I 0))) 2,
 O p49 (.mv X48) 3,
 OG p50 p49 false (.faddr 4 X3) 4,
 OG p51 p49 false (.load 1 false X50) 5,
 OG p52 p49 false (.bin .neq .num X51 (.c (.str []))) 6,
 O p53 (.pick X49 (.c (.bool true)) X52) 7,
 O p54 (.mv X53) 8,
 OG p55 p54 false (.faddr 5 X3) 9,
 OG p56 p54 false (.load 1 false X55) 10,
 OG p57 p54 false (.len 1 X56) 11,
 OG p58 p54 false (.bin .gtr .num X57 (.c (I 0))) 12,
 O p59 (.pick X54 (.c (.bool true)) X58) 13,
 O p60 (.nilck X46) 14,
 O p61 (.faddr 4 X60) 15,
 ON (.store 1 X61 X59) 16] false
def c124_9 : CC := .reg [
 O p62 (.mv X0) 0,
 O p63 (.nilck X62) 1,
 O p64 (.faddr 0 X63) 2,
 O p65 (.mv X4) 3,
 O p66 (.call (.c (.fn 123 [])) [X64, X65]) 4] false
def c124_10 : CC := .reg [
 O p68 (.bin .eql .num X34 (.c (I 2))) 0,
 O p67 (.mv X68) 1] false
def c124_11 : CC := .reg [
 O p69 (.mv X0) 0,
 O p70 (.faddr 4 X3) 1,
 O p71 (.load 1 false X70) 2,
 O p72 (.call (.c (.fn 68 [])) [X71]) 3,
 O p73 (.un .not X72) 4,
 O p74 (.mv X73) 5,
 OG p75 p74 false (.faddr 1 X3) 6,
 OG p76 p74 false (.load 3 true X75) 7,
 OG p77 p74 false (.build [I 0, I 0, (.str [])] []) 8,
 OG p78 p74 false (.bin .neq (.cells [.i, .i, .s]) X76 X77) 9,
 O p79 (.pick X74 (.c (.bool true)) X78) 10,
 O p80 (.mv X79) 11,
 OG p81 p80 false (.faddr 5 X3) 12,
 OG p82 p80 false (.load 1 false X81) 13,
 OG p83 p80 false (.len 1 X82) 14,
 OG p84 p80 false (.bin .gtr .num X83 (.c (I 0))) 15,
 O p85 (.pick X80 (.c (.bool true)) X84) 16,
 O p86 (.nilck X69) 17,
 O p87 (.faddr 4 X86) 18,
 ON (.store 1 X87 X85) 19] false
def c124_12 : CC := .reg [
 O p88 (.mv X0) 0,
 O p89 (.nilck X88) 1,
 O p90 (.faddr 0 X89) 2,
 O p91 (.faddr 4 X3) 3,
 O p92 (.load 1 false X91) 4,
 O p93 (.call (.c (.fn 123 [])) [X90, X92]) 5] true
def c124_13 : CC := .reg [
 O p95 (.bin .eql .num X34 (.c (I 3))) 0,
 O p94 (.mv X95) 1] false
def c124_14 : CC := .reg [
 O p96 (.bin .eql .num X34 (.c (I 4))) 0,
 O p94 (.mv X96) 1] false
def c124_15 : CC := .reg [
 O p97 (.bin .eql .num X34 (.c (I 5))) 0,
 O p94 (.mv X97) 1] false
def c124_16 : CC := .reg [
 O p98 (.mv X0) 0,
 O p99 (.faddr 4 X3) 1,
 O p100 (.load 1 false X99) 2,
 O p101 (.bin .neq .num X100 (.c (.str []))) 3,
 O p102 (.mv X101) 4,
 OG p103 p102 false (.faddr 1 X3) 5,
 OG p104 p102 false (.load 3 true X103) 6,
 OG p105 p102 false (.build [I 0, I 0, (.str [])] []) 7,
 OG p106 p102 false (.bin .neq (.cells [.i, .i, .s]) X104 X105) 8,
 O p107 (.pick X102 (.c (.bool true)) X106) 9,
 O p108 (.mv X107) 10,
 OG p109 p108 false (.mv X0) 11,
 OG p110 p108 false (.nilck X109) 12,
 OG p111 p108 false (.faddr 2 X110) 13,
 OG p112 p108 false (.load 1 false X111) 14,
 OG p113 p108 false (.bin .eql .num X112 (.c (I 50))) 15,
 O p114 (.pick X108 (.c (.bool true)) X113) 16,
 O p115 (.nilck X98) 17,
 O p116 (.faddr 4 X115) 18,
 ON (.store 1 X116 X114) 19] false
def c124_17 : CC := .reg [
 O p117 (.faddr 0 X3) 0,
 O p118 (.load 1 false X117) 1,
 O p119 (.bin .sub .num X118 (.c (I 3))) 2,
 O p6 (.mv X119) 3] false
def c124_18 : CC := .reg [
 O p120 (.mv X0) 0,
 O p121 (.nilck X120) 1,
 O p122 (.faddr 2 X121) 2,
 O p123 (.load 1 false X122) 3,
 O p124 (.bin .add .num X123 (.c (I 1))) 4,
 O p125 (.nilck X120) 5,
 O p126 (.faddr 2 X125) 6,
 ON (.store 1 X126 X124) 7] false
def c124_19 : CC := .reg [
 O p127 (.mv X0) 0,
 O p128 (.nilck X127) 1,
 O p129 (.faddr 0 X128) 2,
 O p130 (.mv X6) 3,
 O p131 (.index (.c (.str [40, 91, 123])) X130) 4,
 O p132 (.call (.c (.fn 151 [])) [X129, X131]) 5] true
def c124_20 : CC := .reg [
 O p133 (.mv X0) 0,
 O p134 (.faddr 5 X3) 1,
 O p135 (.load 1 false X134) 2,
 O p136 (.call (.c (.fn 85 [])) [X133, X135, (.c (.str [32]))]) 3] false
def c124_21 : CC := .reg [
 O p137 (.mv X0) 0,
 O p138 (.nilck X137) 1,
 O p139 (.faddr 0 X138) 2,
 O p140 (.mv X6) 3,
 O p141 (.index (.c (.str [41, 93, 125])) X140) 4,
 O p142 (.call (.c (.fn 151 [])) [X139, X141]) 5] true
def c124_22 : CC := .reg [
 O p143 (.mv X0) 0,
 O p144 (.nilck X143) 1,
 O p145 (.faddr 2 X144) 2,
 O p146 (.load 1 false X145) 3,
 O p147 (.bin .sub .num X146 (.c (I 1))) 4,
 O p148 (.nilck X143) 5,
 O p149 (.faddr 2 X148) 6,
 ON (.store 1 X149 X147) 7] false
def c124_23 : CC := .reg [
 O p35 (.mv X0) 0,
 O p36 (.nilck X35) 1,
 O p37 (.faddr 4 X36) 2,
 ON (.store 1 X37 (.c (.bool true))) 3] false
def F124 : CF := .mk 150 [p0, p1] 8 (.seq c124_0 (.seq (.seq c124_1 (.seq c124_2 (.cond X25 c124_3 .skip))) (.seq (.seq c124_4 (.cond X32 .ret .skip)) (.seq c124_5 (.blk 0 (.seq c124_6 (.cond X38 (.seq c124_7 (.seq c124_8 c124_9)) (.seq c124_10 (.cond X67 (.seq c124_11 c124_12) (.seq (.seq c124_13 (.cond X94 .skip (.seq c124_14 (.cond X94 .skip c124_15)))) (.cond X94 (.seq c124_16 (.seq c124_17 (.seq c124_18 (.seq c124_19 (.seq c124_20 (.seq c124_21 c124_22)))))) c124_23))))))))))) [] 0
/- daybook/daybookref04.entity -/
def c125_0 : CC := .reg [
 O p2 (.mv (.c (.bool false))) 0] false
def c125_1 : CC := .reg [
 O p3 (.mv X0) 0,
 O p4 (.bin .geq .num X3 (.c (I 0))) 1,
 O p5 (.mv X4) 2,
 OG p6 p5 true (.mv X0) 3,
 OG p7 p5 true (.bin .lss .num X6 (.c (I 9007199254740992))) 4,
 O p8 (.pick X5 X7 (.c (.bool false))) 5,
 O p2 (.mv X8) 6] false
def F125 : CF := .mk 9 [p0] 4 (.seq c125_0 (.seq c125_1 .ret)) [.t p2] 3
/- daybook/daybookref01.Compare -/
def c126_0 : CC := .reg [
 O p2 (.box 34 X0) 0,
 O p3 (.box 34 X1) 1,
 O p4 (.mv (.c (I 0))) 2] false
def c126_1 : CC := .reg [
 O p6 (.faddr 0 X2) 0,
 O p7 (.load 1 false X6) 1,
 O p8 (.faddr 0 X3) 2,
 O p9 (.load 1 false X8) 3,
 O p10 (.bin .lss .num X7 X9) 4] false
def c126_2 : CC := .reg [
 O p4 (.mv (.c (I (-1)))) 0] false
def c126_3 : CC := .reg [
 O p11 (.faddr 0 X2) 0,
 O p12 (.load 1 false X11) 1,
 O p13 (.faddr 0 X3) 2,
 O p14 (.load 1 false X13) 3,
 O p15 (.bin .gtr .num X12 X14) 4] false
def c126_4 : CC := .reg [
 O p4 (.mv (.c (I 1))) 0] false
def c126_5 : CC := .reg [
 O p16 (.faddr 1 X2) 0,
 O p17 (.load 1 false X16) 1,
 O p18 (.faddr 1 X3) 2,
 O p19 (.load 1 false X18) 3,
 O p20 (.bin .lss .num X17 X19) 4] false
def c126_6 : CC := .reg [
 O p4 (.mv (.c (I (-1)))) 0] false
def c126_7 : CC := .reg [
 O p21 (.faddr 1 X2) 0,
 O p22 (.load 1 false X21) 1,
 O p23 (.faddr 1 X3) 2,
 O p24 (.load 1 false X23) 3,
 O p25 (.bin .gtr .num X22 X24) 4] false
def c126_8 : CC := .reg [
 O p4 (.mv (.c (I 1))) 0] false
def c126_9 : CC := .reg [
 O p5 (.mv (.c (I 0))) 0] false
def c126_10 : CC := .reg [
 O p26 (.mv X5) 0,
 O p27 (.faddr 2 X2) 1,
 O p28 (.load 1 false X27) 2,
 O p29 (.len 0 X28) 3,
 O p30 (.bin .lss .num X26 X29) 4,
 O p31 (.mv X30) 5,
 OG p32 p31 true (.mv X5) 6,
 OG p33 p31 true (.faddr 2 X3) 7,
 OG p34 p31 true (.load 1 false X33) 8,
 OG p35 p31 true (.len 0 X34) 9,
 OG p36 p31 true (.bin .lss .num X32 X35) 10,
 O p37 (.pick X31 X36 (.c (.bool false))) 11] false
def c126_11 : CC := .reg [
 O p40 (.faddr 2 X2) 0,
 O p41 (.load 1 false X40) 1,
 O p42 (.mv X5) 2,
 O p43 (.index X41 X42) 3,
 O p44 (.faddr 2 X3) 4,
 O p45 (.load 1 false X44) 5,
 O p46 (.mv X5) 6,
 O p47 (.index X45 X46) 7,
 O p48 (.bin .lss .num X43 X47) 8] true
def c126_12 : CC := .reg [
 O p4 (.mv (.c (I (-1)))) 0] false
def c126_13 : CC := .reg [
 O p49 (.faddr 2 X2) 0,
 O p50 (.load 1 false X49) 1,
 O p51 (.mv X5) 2,
 O p52 (.index X50 X51) 3,
 O p53 (.faddr 2 X3) 4,
 O p54 (.load 1 false X53) 5,
 O p55 (.mv X5) 6,
 O p56 (.index X54 X55) 7,
 O p57 (.bin .gtr .num X52 X56) 8] true
def c126_14 : CC := .reg [
 O p4 (.mv (.c (I 1))) 0] false
def c126_15 : CC := .reg [
 O p38 (.mv X5) 0,
 O p39 (.bin .add .num X38 (.c (I 1))) 1,
 O p5 (.mv X39) 2] false
def c126_16 : CC := .loop (.seq (.seq c126_10 (.cond X37 .skip (.exit 0))) (.seq (.blk 1 (.seq (.seq c126_11 (.cond X48 (.seq c126_12 .ret) .skip)) (.seq c126_13 (.cond X57 (.seq c126_14 .ret) .skip)))) c126_15))
def c126_17 : CC := .reg [
 O p58 (.faddr 2 X2) 0,
 O p59 (.load 1 false X58) 1,
 O p60 (.len 0 X59) 2,
 O p61 (.faddr 2 X3) 3,
 O p62 (.load 1 false X61) 4,
 O p63 (.len 0 X62) 5,
 O p64 (.bin .lss .num X60 X63) 6] false
def c126_18 : CC := .reg [
 O p4 (.mv (.c (I (-1)))) 0] false
def c126_19 : CC := .reg [
 O p65 (.faddr 2 X2) 0,
 O p66 (.load 1 false X65) 1,
 O p67 (.len 0 X66) 2,
 O p68 (.faddr 2 X3) 3,
 O p69 (.load 1 false X68) 4,
 O p70 (.len 0 X69) 5,
 O p71 (.bin .gtr .num X67 X70) 6] false
def c126_20 : CC := .reg [
 O p4 (.mv (.c (I 1))) 0] false
def c126_21 : CC := .reg [
 O p4 (.mv (.c (I 0))) 0] false
def F126 : CF := .mk 72 [p0, p1] 7 (.seq c126_0 (.seq (.seq c126_1 (.cond X10 (.seq c126_2 .ret) .skip)) (.seq (.seq c126_3 (.cond X15 (.seq c126_4 .ret) .skip)) (.seq (.seq c126_5 (.cond X20 (.seq c126_6 .ret) .skip)) (.seq (.seq c126_7 (.cond X25 (.seq c126_8 .ret) .skip)) (.seq (.seq c126_9 (.blk 0 c126_16)) (.seq (.seq c126_17 (.cond X64 (.seq c126_18 .ret) .skip)) (.seq (.seq c126_19 (.cond X71 (.seq c126_20 .ret) .skip)) (.seq c126_21 .ret))))))))) [.t p4] 3
/- daybook/facts.may -/
def c127_0 : CC := .reg [
 O p1 (.box 71 X0) 0,
 O p2 (.mv (.c (.bool false))) 1] false
def c127_1 : CC := .reg [
 O p4 (.faddr 0 X1) 0,
 O p5 (.load 1 false X4) 1,
 O p6 (.faddr 1 X1) 2,
 O p7 (.load 1 false X6) 3,
 O p8 (.faddr 2 X1) 4,
 O p9 (.load 3 true X8) 5,
 O p10 (.build [I 0, I 0, I 0, I 0, (.str []), I 0, (.bool false), I 0, I 0] [(0, 1, X5), (1, 1, X7), (2, 3, X9), (5, 1, (.c (I 1))), (8, 1, (.c (I 1)))]) 6,
 O p3 (.alloc 154 [I 0, I 0, I 0, I 0, (.str []), I 0, (.bool false), I 0, I 0]) 7,
 ON (.store 9 X3 X10) 8] false
def c127_2 : CC := .reg [
 O p11 (.load 9 true X3) 0,
 O p12 (.call (.c (.fn 163 [])) [X11]) 1,
 O p13 (.bin .eql .num X12 (.c (I 0))) 2,
 O p14 (.mv X13) 3,
 OG p15 p14 true (.faddr 5 X1) 4,
 OG p16 p14 true (.load 1 false X15) 5,
 OG p17 p14 true (.len 1 X16) 6,
 OG p18 p14 true (.bin .gtr .num X17 (.c (I 0))) 7,
 O p19 (.pick X14 X18 (.c (.bool false))) 8,
 O p20 (.mv X19) 9,
 OG p21 p20 true (.faddr 5 X1) 10,
 OG p22 p20 true (.load 1 false X21) 11,
 OG p23 p20 true (.call (.c (.fn 164 [])) [X22]) 12,
 OG p24 p20 true (.bin .eql .num X23 (.c (I 0))) 13,
 O p25 (.pick X20 X24 (.c (.bool false))) 14,
 O p2 (.mv X25) 15] false
def F127 : CF := .mk 26 [p0] 5 (.seq c127_0 (.seq c127_1 (.seq c127_2 .ret))) [.t p2] 3
/- daybook/facts.compare -/
def c128_0 : CC := .reg [
 O p2 (.box 71 X0) 0,
 O p3 (.box 71 X1) 1,
 O p4 (.mv (.c (I 0))) 2] false
def c128_1 : CC := .reg [
 O p5 (.faddr 0 X2) 0,
 O p6 (.load 1 false X5) 1,
 O p7 (.faddr 0 X3) 2,
 O p8 (.load 1 false X7) 3,
 O p10 (.faddr 1 X2) 5,
 .mk (some p11) none (.load 1 false X10) [12] 6,
 O p12 (.faddr 1 X3) 7,
 .mk (some p13) none (.load 1 false X12) [12] 8,
 O p15 (.faddr 2 X2) 10,
 .mk (some p16) none (.load 3 true X15) [12, 13] 11,
 O p17 (.faddr 2 X3) 12,
 .mk (some p18) none (.load 3 true X17) [12, 13] 13,
 O p9 (.call (.c (.fn 165 [])) [X6, X8]) 4,
 O p14 (.call (.c (.fn 165 [])) [X11, X13]) 9,
 O p19 (.call (.c (.fn 166 [])) [X16, X18]) 14,
 O p20 (.bslice 3 1 [I 0] 3 [(0, X9), (1, X14), (2, X19)]) 15,
 O p21 (.call (.c (.fn 139 [])) [X20]) 16,
 O p4 (.mv X21) 17] true
def F128 : CF := .mk 22 [p0, p1] 5 (.seq c128_0 (.seq c128_1 .ret)) [.t p4] 3
/- slices.DeleteFunc[[]daybook/api.Item,daybook/api.Item] -/
def c129_0 : CC := .reg [
 O p4 (.mv (.c .nils)) 0] false
def c129_1 : CC := .reg [
 O p8 (.mv X0) 0,
 O p9 (.mv X1) 1,
 O p10 (.call (.c (.fn 117 [])) [X8, X9]) 2,
 O p5 (.mv X10) 3] false
def c129_2 : CC := .reg [
 O p11 (.mv X5) 0,
 O p12 (.bin .eql .num X11 (.c (I (-1)))) 1] false
def c129_3 : CC := .reg [
 O p13 (.mv X0) 0,
 O p4 (.mv X13) 1] false
def c129_4 : CC := .reg [
 O p14 (.mv X5) 0,
 O p15 (.bin .add .num X14 (.c (I 1))) 1,
 O p6 (.mv X15) 2] false
def c129_5 : CC := .reg [
 O p16 (.mv X6) 0,
 O p17 (.mv X0) 1,
 O p18 (.len 1 X17) 2,
 O p19 (.bin .lss .num X16 X18) 3] false
def c129_6 : CC := .reg [
 O p22 (.mv X0) 0,
 O p23 (.mv X6) 1,
 O p24 (.iaddr 11 X22 X23) 2,
 O p25 (.load 11 true X24) 3,
 O p7 (.alloc 44 [(.bool false), (.str []), (.bool false), I 0, (.bool false), I 0, I 0, (.str []), (.bool false), .nils, I 0]) 4,
 ON (.store 11 X7 X25) 5] false
def c129_7 : CC := .reg [
 O p26 (.mv X1) 0,
 O p27 (.load 11 true X7) 1,
 O p28 (.call X26 [X27]) 2,
 O p29 (.un .not X28) 3] false
def c129_8 : CC := .reg [
 O p30 (.mv X0) 0,
 O p31 (.mv X5) 1,
 O p32 (.load 11 true X7) 2,
 O p33 (.iaddr 11 X30 X31) 3,
 ON (.store 11 X33 X32) 4] false
def c129_9 : CC := .reg [
 O p34 (.mv X5) 0,
 O p35 (.bin .add .num X34 (.c (I 1))) 1,
 O p5 (.mv X35) 2] false
def c129_10 : CC := .reg [
 O p20 (.mv X6) 0,
 O p21 (.bin .add .num X20 (.c (I 1))) 1,
 O p6 (.mv X21) 2] false
def c129_11 : CC := .loop (.seq (.seq c129_5 (.cond X19 .skip (.exit 0))) (.seq (.blk 1 (.seq c129_6 (.seq c129_7 (.cond X29 (.seq c129_8 c129_9) .skip)))) c129_10))
def c129_12 : CC := .reg [
 O p36 (.mv X0) 0,
 O p37 (.mv X5) 1,
 O p38 (.slice 11 X36 (some X37) none none) 2,
 ON (.clear 11 [(.bool false), (.str []), (.bool false), I 0, (.bool false), I 0, I 0, (.str []), (.bool false), .nils, I 0] X38) 3] false
def c129_13 : CC := .reg [
 O p39 (.mv X0) 0,
 O p40 (.mv X5) 1,
 O p41 (.slice 11 X39 none (some X40) none) 2,
 O p4 (.mv X41) 3] false
def F129 : CF := .mk 42 [p0, p1] 6 (.seq c129_0 (.seq c129_1 (.seq (.seq c129_2 (.cond X12 (.seq c129_3 .ret) .skip)) (.seq (.seq c129_4 (.blk 0 c129_11)) (.seq c129_12 (.seq c129_13 .ret)))))) [.t p4] 0
/- slices.Clone[[]daybook/api.Item,daybook/api.Item] -/
def c130_0 : CC := .reg [
 O p2 (.mv (.c .nils)) 0] false
def c130_1 : CC := .reg [
 O p3 (.mv X0) 0,
 O p4 (.bin .eql .slice X3 (.c .nils)) 1] false
def c130_2 : CC := .reg [
 O p2 (.mv (.c .nils)) 0] false
def c130_3 : CC := .reg [
 O p5 (.bslice 44 11 [(.bool false), (.str []), (.bool false), I 0, (.bool false), I 0, I 0, (.str []), (.bool false), .nils, I 0] 0 []) 0,
 O p6 (.mv X0) 1,
 O p7 (.append 44 11 X5 X6) 2,
 O p2 (.mv X7) 3] false
def F130 : CF := .mk 8 [p0] 4 (.seq c130_0 (.seq (.seq c130_1 (.cond X4 (.seq c130_2 .ret) .skip)) (.seq c130_3 .ret))) [.t p2] 0
/- (*daybook/pull.puller).items$1 -/
def c131_0 : CC := .reg [
 O p1 (.box 44 X0) 0,
 O p2 (.mv (.c (.bool false))) 1] false
def c131_1 : CC := .reg [
 O p3 (.faddr 0 X1) 0,
 O p4 (.load 1 false X3) 1,
 O p2 (.mv X4) 2] false
def F131 : CF := .mk 5 [p0] 3 (.seq c131_0 (.seq c131_1 .ret)) [.t p2] 0
/- slices.ContainsFunc[[]daybook/api.Fact,daybook/api.Fact] -/
def c132_0 : CC := .reg [
 O p4 (.mv (.c (.bool false))) 0] false
def c132_1 : CC := .reg [
 O p5 (.mv X0) 0,
 O p6 (.mv X1) 1,
 O p7 (.call (.c (.fn 167 [])) [X5, X6]) 2,
 O p8 (.bin .geq .num X7 (.c (I 0))) 3,
 O p4 (.mv X8) 4] false
def F132 : CF := .mk 9 [p0, p1] 4 (.seq c132_0 (.seq c132_1 .ret)) [.t p4] 2
/- (*daybook/pull.puller).items$2 -/
def c133_0 : CC := .reg [
 O p3 (.box 71 X0) 0,
 O p4 (.mv (.c (.bool false))) 1] false
def c133_1 : CC := .reg [
 O p5 (.faddr 0 X3) 0,
 O p6 (.load 1 false X5) 1,
 O p7 (.load 1 false X1) 2,
 O p8 (.bin .eql .num X6 X7) 3,
 O p9 (.mv X8) 4,
 OG p10 p9 true (.faddr 1 X3) 5,
 OG p11 p9 true (.load 1 false X10) 6,
 OG p12 p9 true (.faddr 0 X2) 7,
 OG p13 p9 true (.load 1 false X12) 8,
 OG p14 p9 true (.bin .eql .num X11 X13) 9,
 O p15 (.pick X9 X14 (.c (.bool false))) 10,
 O p4 (.mv X15) 11] false
def F133 : CF := .mk 16 [p0, p1, p2] 5 (.seq c133_0 (.seq c133_1 .ret)) [.t p4] 0
/- (*daybook/pull.puller).items$3 -/
def c134_0 : CC := .reg [
 O p2 (.box 44 X0) 0,
 O p3 (.mv (.c (.bool false))) 1] false
def c134_1 : CC := .reg [
 O p4 (.faddr 0 X2) 0,
 O p5 (.load 1 false X4) 1,
 O p6 (.un .not X5) 2,
 O p7 (.mv X6) 3,
 OG p8 p7 true (.faddr 1 X2) 4,
 OG p9 p7 true (.load 1 false X8) 5,
 OG p10 p7 true (.faddr 1 X1) 6,
 OG p11 p7 true (.load 1 false X10) 7,
 OG p12 p7 true (.bin .eql .num X9 X11) 8,
 O p13 (.pick X7 X12 (.c (.bool false))) 9,
 O p14 (.mv X13) 10,
 OG p15 p14 true (.faddr 2 X2) 11,
 OG p16 p14 true (.load 1 false X15) 12,
 OG p17 p14 true (.un .not X16) 13,
 O p18 (.pick X14 X17 (.c (.bool false))) 14,
 O p3 (.mv X18) 15] false
def F134 : CF := .mk 19 [p0, p1] 5 (.seq c134_0 (.seq c134_1 .ret)) [.t p3] 0
/- (*daybook/pull.puller).values -/
def c135_0 : CC := .reg [
 O p3 (.box 104 X0) 0,
 O p4 (.box 2 X1) 1,
 O p5 (.box 44 X2) 2,
 O p6 (.mv (.c .nilf)) 3] false
def c135_1 : CC := .reg [
 O p8 (.load 1 false X3) 0,
 O p9 (.nilck X8) 1,
 O p10 (.faddr 1 X9) 2,
 O p11 (.load 1 false X10) 3,
 O p12 (.faddr 1 X5) 4,
 O p13 (.load 1 false X12) 5,
 O p14 (.lookup true (I 0) false X11 X13) 6,
 O p7 (.alloc 2 [I 0]) 7,
 ON (.store 1 X7 X14) 8] true
def c135_2 : CC := .reg [
 O p15 (.mkfn 168 [X3, X7, X5, X4]) 0,
 O p6 (.mv X15) 1] false
def F135 : CF := .mk 16 [p0, p1, p2] 5 (.seq c135_0 (.seq c135_1 (.seq c135_2 .ret))) [.t p6] 0
/- (*daybook/pull.puller).leaf -/
def c136_0 : CC := .reg [
 O p6 (.box 34 X1) 0,
 O p7 (.box 44 X2) 1,
 O p10 (.alloc 76 [I 0, I 0, (.str []), (.bool false), .nils]) 2] false
def c136_1 : CC := .reg [
 O p14 (.mv X0) 0,
 O p15 (.nilck X14) 1,
 O p16 (.faddr 3 X15) 2,
 O p17 (.load 1 false X16) 3,
 O p18 (.bin .add .num X17 (.c (I 1))) 4,
 O p19 (.nilck X14) 5,
 O p20 (.faddr 3 X19) 6,
 ON (.store 1 X20 X18) 7] false
def c136_2 : CC := .reg [
 O p21 (.mv X0) 0,
 O p22 (.mv X0) 1,
 O p23 (.nilck X22) 2,
 O p24 (.faddr 4 X23) 3,
 O p25 (.load 1 false X24) 4,
 O p26 (.mv X25) 5,
 OG p27 p26 false (.mv X0) 6,
 OG p28 p26 false (.nilck X27) 7,
 OG p29 p26 false (.faddr 3 X28) 8,
 OG p30 p26 false (.load 1 false X29) 9,
 OG p31 p26 false (.bin .gtr .num X30 (.c (I 10000))) 10,
 O p32 (.pick X26 (.c (.bool true)) X31) 11,
 O p33 (.nilck X21) 12,
 O p34 (.faddr 4 X33) 13,
 ON (.store 1 X34 X32) 14] false
def c136_3 : CC := .reg [
 O p35 (.load 3 true X6) 0,
 O p36 (.build [I 0, I 0, (.str []), (.bool false), .nils] [(0, 3, X35)]) 1,
 O p11 (.alloc 76 [I 0, I 0, (.str []), (.bool false), .nils]) 2,
 ON (.store 5 X11 X36) 3] false
def c136_4 : CC := .reg [
 O p37 (.mv X0) 0,
 O p38 (.nilck X37) 1,
 O p39 (.faddr 4 X38) 2,
 O p40 (.load 1 false X39) 3,
 O p41 (.mv X40) 4,
 OG p42 p41 false (.faddr 0 X6) 5,
 OG p43 p41 false (.load 1 false X42) 6,
 OG p44 p41 false (.bin .neq .num X43 (.c (I 5))) 7,
 O p45 (.pick X41 (.c (.bool true)) X44) 8] false
def c136_5 : CC := .reg [
 O p46 (.load 5 true X11) 0,
 ON (.store 5 X10 X46) 1] false
def c136_6 : CC := .reg [
 O p48 (.load 11 true X7) 0,
 O p49 (.mv X3) 1,
 O p50 (.faddr 1 X6) 2,
 O p51 (.load 1 false X50) 3,
 O p52 (.mv X4) 4,
 O p53 (.call (.c (.fn 169 [])) [X48, X49, X51, X52]) 5,
 O p47 (.mv X53) 6,
 O p54 (.ext 0 X47) 7,
 O p55 (.ext 1 X47) 8,
 O p12 (.mv X54) 9,
 O p13 (.mv X55) 10] false
def c136_7 : CC := .reg [
 O p56 (.mv X13) 0] false
def c136_8 : CC := .reg [
 O p57 (.faddr 3 X11) 0,
 ON (.store 1 X57 (.c (.bool true))) 1] false
def c136_9 : CC := .reg [
 O p58 (.mv X0) 0,
 O p59 (.faddr 1 X6) 1,
 .mk (some p60) none (.load 1 false X59) [8, 9] 2,
 O p61 (.mv X12) 3,
 O p62 (.mv X4) 4,
 O p64 (.faddr 1 X6) 6,
 .mk (some p65) none (.load 1 false X64) [8] 7,
 .mk (some p66) none (.bslice 2 1 [I 0] 1 [(0, X65)]) [8] 8,
 O p63 (.call (.c (.fn 170 [])) [X62]) 5,
 O p67 (.append 2 1 X63 X66) 9,
 O p68 (.call (.c (.fn 56 [])) [X58, X60, X61, X67]) 10,
 O p69 (.faddr 4 X11) 11,
 ON (.store 1 X69 X68) 12] true
def c136_10 : CC := .reg [
 O p70 (.load 5 true X11) 0,
 ON (.store 5 X10 X70) 1] false
def F136 : CF := .mk 71 [p0, p1, p2, p3, p4] 7 (.seq c136_0 (.seq c136_1 (.seq c136_2 (.seq c136_3 (.seq (.seq c136_4 (.cond X45 (.seq c136_5 .ret) .skip)) (.seq (.seq c136_6 (.seq c136_7 (.cond X56 (.seq c136_8 c136_9) .skip))) (.seq c136_10 .ret))))))) [.cell p10 5 true] 2
/- slices.pdqsortCmpFunc[daybook/api.Branch] -/
def c137_0 : CC := .reg [
 O p10 (.mv (.c (.bool true))) 0] false
def c137_1 : CC := .reg [
 O p11 (.mv (.c (.bool true))) 0] false
def c137_2 : CC := .reg [
 O p21 (.mv X2) 0,
 O p22 (.mv X1) 1,
 O p23 (.bin .sub .num X21 X22) 2,
 O p12 (.mv X23) 3] false
def c137_3 : CC := .reg [
 O p24 (.mv X12) 0,
 O p25 (.bin .leq .num X24 (.c (I 12))) 1] false
def c137_4 : CC := .reg [
 O p26 (.mv X0) 0,
 O p27 (.mv X1) 1,
 O p28 (.mv X2) 2,
 O p29 (.mv X4) 3,
 O p30 (.call (.c (.fn 171 [])) [X26, X27, X28, X29]) 4] false
def c137_5 : CC := .reg [
 O p31 (.mv X3) 0,
 O p32 (.bin .eql .num X31 (.c (I 0))) 1] false
def c137_6 : CC := .reg [
 O p33 (.mv X0) 0,
 O p34 (.mv X1) 1,
 O p35 (.mv X2) 2,
 O p36 (.mv X4) 3,
 O p37 (.call (.c (.fn 172 [])) [X33, X34, X35, X36]) 4] false
def c137_7 : CC := .reg [
 O p38 (.mv X10) 0,
 O p39 (.un .not X38) 1] false
def c137_8 : CC := .reg [
 O p40 (.mv X0) 0,
 O p41 (.mv X1) 1,
 O p42 (.mv X2) 2,
 O p43 (.mv X4) 3,
 O p44 (.call (.c (.fn 173 [])) [X40, X41, X42, X43]) 4] false
def c137_9 : CC := .reg [
 O p45 (.mv X3) 0,
 O p46 (.bin .sub .num X45 (.c (I 1))) 1,
 O p3 (.mv X46) 2] false
def c137_10 : CC := .reg [
 O p48 (.mv X0) 0,
 O p49 (.mv X1) 1,
 O p50 (.mv X2) 2,
 O p51 (.mv X4) 3,
 O p52 (.call (.c (.fn 174 [])) [X48, X49, X50, X51]) 4,
 O p47 (.mv X52) 5,
 O p53 (.ext 0 X47) 6,
 O p54 (.ext 1 X47) 7,
 O p13 (.mv X53) 8,
 O p14 (.mv X54) 9] false
def c137_11 : CC := .reg [
 O p55 (.mv X14) 0,
 O p56 (.bin .eql .num X55 (.c (I 2))) 1] false
def c137_12 : CC := .reg [
 O p57 (.mv X0) 0,
 O p58 (.mv X1) 1,
 O p59 (.mv X2) 2,
 O p60 (.mv X4) 3,
 O p61 (.call (.c (.fn 175 [])) [X57, X58, X59, X60]) 4] false
def c137_13 : CC := .reg [
 O p62 (.mv X2) 0,
 O p63 (.bin .sub .num X62 (.c (I 1))) 1,
 O p64 (.mv X13) 2,
 O p65 (.mv X1) 3,
 O p66 (.bin .sub .num X64 X65) 4,
 O p67 (.bin .sub .num X63 X66) 5,
 O p13 (.mv X67) 6] false
def c137_14 : CC := .reg [
 O p14 (.mv (.c (I 1))) 0] false
def c137_15 : CC := .reg [
 O p68 (.mv X10) 0,
 O p69 (.mv X68) 1,
 OG p70 p69 true (.mv X11) 2,
 O p71 (.pick X69 X70 (.c (.bool false))) 3,
 O p72 (.mv X71) 4,
 OG p73 p72 true (.mv X14) 5,
 OG p74 p72 true (.bin .eql .num X73 (.c (I 1))) 6,
 O p75 (.pick X72 X74 (.c (.bool false))) 7] false
def c137_16 : CC := .reg [
 O p76 (.mv X0) 0,
 O p77 (.mv X1) 1,
 O p78 (.mv X2) 2,
 O p79 (.mv X4) 3,
 O p80 (.call (.c (.fn 176 [])) [X76, X77, X78, X79]) 4] false
def c137_17 : CC := .reg [
 O p81 (.mv X1) 0,
 O p82 (.bin .gtr .num X81 (.c (I 0))) 1,
 O p83 (.mv X82) 2,
 OG p84 p83 true (.mv X4) 3,
 OG p85 p83 true (.mv X0) 4,
 OG p86 p83 true (.mv X1) 5,
 OG p87 p83 true (.bin .sub .num X86 (.c (I 1))) 6,
 OG p88 p83 true (.iaddr 3 X85 X87) 7,
 OG p89 p83 true (.load 3 true X88) 8,
 OG p90 p83 true (.mv X0) 9,
 OG p91 p83 true (.mv X13) 10,
 OG p92 p83 true (.iaddr 3 X90 X91) 11,
 OG p93 p83 true (.load 3 true X92) 12,
 OG p94 p83 true (.call X84 [X89, X93]) 13,
 OG p95 p83 true (.bin .lss .num X94 (.c (I 0))) 14,
 OG p96 p83 true (.un .not X95) 15,
 O p97 (.pick X83 X96 (.c (.bool false))) 16] true
def c137_18 : CC := .reg [
 O p98 (.mv X0) 0,
 O p99 (.mv X1) 1,
 O p100 (.mv X2) 2,
 O p101 (.mv X13) 3,
 O p102 (.mv X4) 4,
 O p103 (.call (.c (.fn 177 [])) [X98, X99, X100, X101, X102]) 5,
 O p15 (.mv X103) 6] false
def c137_19 : CC := .reg [
 O p104 (.mv X15) 0,
 O p1 (.mv X104) 1] false
def c137_20 : CC := .reg [
 O p106 (.mv X0) 0,
 O p107 (.mv X1) 1,
 O p108 (.mv X2) 2,
 O p109 (.mv X13) 3,
 O p110 (.mv X4) 4,
 O p111 (.call (.c (.fn 178 [])) [X106, X107, X108, X109, X110]) 5,
 O p105 (.mv X111) 6,
 O p112 (.ext 0 X105) 7,
 O p113 (.ext 1 X105) 8,
 O p16 (.mv X112) 9,
 O p17 (.mv X113) 10] false
def c137_21 : CC := .reg [
 O p114 (.mv X17) 0,
 O p11 (.mv X114) 1] false
def c137_22 : CC := .reg [
 O p115 (.mv X16) 0,
 O p116 (.mv X1) 1,
 O p117 (.bin .sub .num X115 X116) 2,
 O p118 (.mv X2) 3,
 O p119 (.mv X16) 4,
 O p120 (.bin .sub .num X118 X119) 5,
 O p18 (.mv X117) 6,
 O p19 (.mv X120) 7] false
def c137_23 : CC := .reg [
 O p121 (.mv X12) 0,
 O p122 (.bin .quo .num X121 (.c (I 8))) 1,
 O p20 (.mv X122) 2] false
def c137_24 : CC := .reg [
 O p123 (.mv X18) 0,
 O p124 (.mv X19) 1,
 O p125 (.bin .lss .num X123 X124) 2] false
def c137_25 : CC := .reg [
 O p126 (.mv X18) 0,
 O p127 (.mv X20) 1,
 O p128 (.bin .geq .num X126 X127) 2,
 O p10 (.mv X128) 3] false
def c137_26 : CC := .reg [
 O p129 (.mv X0) 0,
 O p130 (.mv X1) 1,
 O p131 (.mv X16) 2,
 O p132 (.mv X3) 3,
 O p133 (.mv X4) 4,
 O p134 (.call (.c (.fn 137 [])) [X129, X130, X131, X132, X133]) 5] false
def c137_27 : CC := .reg [
 O p135 (.mv X16) 0,
 O p136 (.bin .add .num X135 (.c (I 1))) 1,
 O p1 (.mv X136) 2] false
def c137_28 : CC := .reg [
 O p137 (.mv X19) 0,
 O p138 (.mv X20) 1,
 O p139 (.bin .geq .num X137 X138) 2,
 O p10 (.mv X139) 3] false
def c137_29 : CC := .reg [
 O p140 (.mv X0) 0,
 O p141 (.mv X16) 1,
 O p142 (.bin .add .num X141 (.c (I 1))) 2,
 O p143 (.mv X2) 3,
 O p144 (.mv X3) 4,
 O p145 (.mv X4) 5,
 O p146 (.call (.c (.fn 137 [])) [X140, X142, X143, X144, X145]) 6] false
def c137_30 : CC := .reg [
 O p147 (.mv X16) 0,
 O p2 (.mv X147) 1] false
def c137_31 : CC := .loop (.blk 1 (.seq c137_2 (.seq (.seq c137_3 (.cond X25 (.seq c137_4 .ret) .skip)) (.seq (.seq c137_5 (.cond X32 (.seq c137_6 .ret) .skip)) (.seq (.seq c137_7 (.cond X39 (.seq c137_8 c137_9) .skip)) (.seq c137_10 (.seq (.seq c137_11 (.cond X56 (.seq c137_12 (.seq c137_13 c137_14)) .skip)) (.seq (.seq c137_15 (.cond X75 (.seq c137_16 (.cond X80 .ret .skip)) .skip)) (.seq (.seq c137_17 (.cond X97 (.seq c137_18 (.seq c137_19 (.exit 1))) .skip)) (.seq c137_20 (.seq c137_21 (.seq c137_22 (.seq c137_23 (.seq c137_24 (.cond X125 (.seq c137_25 (.seq c137_26 c137_27)) (.seq c137_28 (.seq c137_29 c137_30)))))))))))))))))
def F137 : CF := .mk 148 [p0, p1, p2, p3, p4] 8 (.seq c137_0 (.seq c137_1 (.blk 0 c137_31))) [] 0
/- math/bits.Len -/
def c138_0 : CC := .reg [
 O p2 (.mv (.c (I 0))) 0] false
def c138_1 : CC := .reg [
 O p3 (.mv X0) 0,
 O p4 (.toint .u32 X3) 1,
 O p5 (.call (.c (.fn 179 [])) [X4]) 2,
 O p2 (.mv X5) 3] false
def c138_2 : CC := .reg [
 O p6 (.mv X0) 0,
 O p7 (.call (.c (.fn 180 [])) [X6]) 1,
 O p2 (.mv X7) 2] false
def F138 : CF := .mk 8 [p0] 4 (.seq c138_0 (.seq (.cond (.c (.bool false)) (.seq c138_1 .ret) .skip) (.seq c138_2 .ret))) [.t p2] 3
/- cmp.Or[int] -/
def c139_0 : CC := .reg [
 O p2 (.mv (.c (I 0))) 0] false
def c139_1 : CC := .reg [
 O p3 (.mv (.c (I 0))) 0] false
def c139_2 : CC := .reg [
 O p6 (.mv X0) 0,
 O p7 (.len 1 X6) 1,
 O p8 (.mv (.c (I 0))) 2] false
def c139_3 : CC := .reg [
 O p9 (.bin .lss .num X8 X7) 0] false
def c139_4 : CC := .reg [
 O p10 (.iaddr 1 X6 X8) 0,
 O p11 (.load 1 false X10) 1,
 O p5 (.mv X11) 2] false
def c139_5 : CC := .reg [
 O p12 (.mv X5) 0,
 O p13 (.mv X3) 1,
 O p14 (.bin .neq .num X12 X13) 2] false
def c139_6 : CC := .reg [
 O p15 (.mv X5) 0,
 O p2 (.mv X15) 1] false
def c139_7 : CC := .reg [
 O p16 (.bin .add .num X8 (.c (I 1))) 0,
 O p8 (.mv X16) 1] false
def c139_8 : CC := .loop (.seq c139_3 (.seq (.cond X9 .skip (.exit 0)) (.seq (.blk 1 (.seq c139_4 (.seq c139_5 (.cond X14 (.seq c139_6 .ret) .skip)))) c139_7)))
def c139_9 : CC := .reg [
 O p17 (.mv X3) 0,
 O p2 (.mv X17) 1] false
def F139 : CF := .mk 18 [p0] 5 (.seq c139_0 (.seq c139_1 (.seq (.seq c139_2 (.blk 0 c139_8)) (.seq c139_9 .ret)))) [.t p2] 1
/- cmp.Compare[int] -/
def c141_0 : CC := .reg [
 O p4 (.mv (.c (I 0))) 0] false
def c141_1 : CC := .reg [
 O p7 (.mv X0) 0,
 O p8 (.call (.c (.fn 182 [])) [X7]) 1,
 O p5 (.mv X8) 2] false
def c141_2 : CC := .reg [
 O p9 (.mv X1) 0,
 O p10 (.call (.c (.fn 182 [])) [X9]) 1,
 O p6 (.mv X10) 2] false
def c141_3 : CC := .reg [
 O p11 (.mv X5) 0] false
def c141_4 : CC := .reg [
 O p12 (.mv X6) 0] false
def c141_5 : CC := .reg [
 O p4 (.mv (.c (I 0))) 0] false
def c141_6 : CC := .reg [
 O p4 (.mv (.c (I (-1)))) 0] false
def c141_7 : CC := .reg [
 O p13 (.mv X6) 0] false
def c141_8 : CC := .reg [
 O p4 (.mv (.c (I 1))) 0] false
def c141_9 : CC := .reg [
 O p14 (.mv X0) 0,
 O p15 (.mv X1) 1,
 O p16 (.bin .lss .num X14 X15) 2] false
def c141_10 : CC := .reg [
 O p4 (.mv (.c (I (-1)))) 0] false
def c141_11 : CC := .reg [
 O p17 (.mv X0) 0,
 O p18 (.mv X1) 1,
 O p19 (.bin .gtr .num X17 X18) 2] false
def c141_12 : CC := .reg [
 O p4 (.mv (.c (I 1))) 0] false
def c141_13 : CC := .reg [
 O p4 (.mv (.c (I 0))) 0] false
def F141 : CF := .mk 20 [p0, p1] 5 (.seq c141_0 (.seq c141_1 (.seq c141_2 (.seq (.seq c141_3 (.cond X11 (.seq (.seq c141_4 (.cond X12 (.seq c141_5 .ret) .skip)) (.seq c141_6 .ret)) .skip)) (.seq (.seq c141_7 (.cond X13 (.seq c141_8 .ret) .skip)) (.seq (.seq c141_9 (.cond X16 (.seq c141_10 .ret) .skip)) (.seq (.seq c141_11 (.cond X19 (.seq c141_12 .ret) .skip)) (.seq c141_13 .ret)))))))) [.t p4] 1
/- daybook/pull.behind -/
def c142_0 : CC := .reg [
 O p2 (.mv (.c (I 0))) 0] false
def c142_1 : CC := .reg [
 O p3 (.mv X0) 0] false
def c142_2 : CC := .reg [
 O p2 (.mv (.c (I 1))) 0] false
def c142_3 : CC := .reg [
 O p2 (.mv (.c (I 0))) 0] false
def F142 : CF := .mk 4 [p0] 3 (.seq c142_0 (.seq (.seq c142_1 (.cond X3 (.seq c142_2 .ret) .skip)) (.seq c142_3 .ret))) [.t p2] 1
/- slices.Chunk[[]daybook/api.Node,daybook/api.Node]$1 -/
def c143_0 : CC := .reg [
 O p4 (.mv (.c (I 0))) 0] false
def c143_1 : CC := .reg [
 O p6 (.mv X4) 0,
 O p7 (.load 1 false X1) 1,
 O p8 (.len 1 X7) 2,
 O p9 (.bin .lss .num X6 X8) 3] false
def c143_2 : CC := .reg [
 O p13 (.load 1 false X2) 0,
 O p14 (.load 1 false X1) 1,
 O p15 (.mv X4) 2,
 O p16 (.slice 8 X14 (some X15) none none) 3,
 O p17 (.len 1 X16) 4,
 O p18 (.minmax false X13 X17) 5,
 O p5 (.mv X18) 6] true
def c143_3 : CC := .reg [
 O p19 (.mv X0) 0,
 O p20 (.load 1 false X1) 1,
 O p21 (.mv X4) 2,
 O p22 (.mv X4) 3,
 O p23 (.mv X5) 4,
 O p24 (.bin .add .num X22 X23) 5,
 O p25 (.mv X4) 6,
 O p26 (.mv X5) 7,
 O p27 (.bin .add .num X25 X26) 8,
 O p28 (.slice 8 X20 (some X21) (some X24) (some X27)) 9,
 O p29 (.call X19 [X28]) 10,
 O p30 (.un .not X29) 11] false
def c143_4 : CC := .reg [
 O p10 (.mv X4) 0,
 O p11 (.load 1 false X2) 1,
 O p12 (.bin .add .num X10 X11) 2,
 O p4 (.mv X12) 3] false
def c143_5 : CC := .loop (.seq (.seq c143_1 (.cond X9 .skip (.exit 0))) (.seq (.blk 1 (.seq c143_2 (.seq c143_3 (.cond X30 .ret .skip)))) c143_4))
def F143 : CF := .mk 31 [p0, p1, p2] 5 (.seq c143_0 (.blk 0 c143_5)) [] 0
/- daybook/text.size$1 -/
def c145_0 : CC := .reg [
 O p2 (.mv (.c (.bool false))) 0] false
def c145_1 : CC := .reg [
 O p3 (.mv X0) 0,
 O p4 (.bin .gtr .num X3 (.c (.int .u8 32))) 1,
 O p5 (.mv X4) 2,
 OG p6 p5 true (.mv X0) 3,
 OG p7 p5 true (.bin .leq .num X6 (.c (.int .u8 126))) 4,
 O p8 (.pick X5 X7 (.c (.bool false))) 5,
 O p9 (.mv X8) 6,
 OG p10 p9 true (.mv X0) 7,
 OG p11 p9 true (.call (.c (.fn 103 [])) [(.c (.str [40, 41, 91, 93, 123, 125, 34, 59])), X10]) 8,
 OG p12 p9 true (.bin .lss .num X11 (.c (I 0))) 9,
 O p13 (.pick X9 X12 (.c (.bool false))) 10,
 O p2 (.mv X13) 11] false
def F145 : CF := .mk 14 [p0] 4 (.seq c145_0 (.seq c145_1 .ret)) [.t p2] 0
/- daybook/value.number -/
def c149_0 : CC := .reg [
 O p2 (.mv (.c (I 0))) 0,
 O p3 (.mv (.c (.bool false))) 1] false
def c149_1 : CC := .reg [
 O p7 (.mv X0) 0,
 O p8 (.call (.c (.fn 185 [])) [X7, (.c (I 10)), (.c (I 64))]) 1,
 O p6 (.mv X8) 2,
 O p9 (.ext 0 X6) 3,
 O p10 (.ext 1 X6) 4,
 O p4 (.mv X9) 5,
 O p5 (.mv X10) 6] false
def c149_2 : CC := .reg [
 O p11 (.mv X4) 0,
 O p12 (.mv X5) 1,
 O p13 (.bin .eql .iface X12 (.c .nili)) 2,
 O p14 (.mv X13) 3,
 OG p15 p14 true (.mv X4) 4,
 OG p16 p14 true (.call (.c (.fn 186 [])) [X15, (.c (I 10))]) 5,
 OG p17 p14 true (.mv X0) 6,
 OG p18 p14 true (.bin .eql .num X16 X17) 7,
 O p19 (.pick X14 X18 (.c (.bool false))) 8,
 O p2 (.mv X11) 9,
 O p3 (.mv X19) 10] false
def F149 : CF := .mk 20 [p0] 5 (.seq c149_0 (.seq c149_1 (.seq c149_2 .ret))) [.t p2, .t p3] 3
/- daybook/value.pairs -/
def c150_0 : CC := .reg [
 O p1 (.box 9 X0) 0,
 O p2 (.mv (.c .nilf)) 1] false
def c150_1 : CC := .reg [
 O p3 (.mkfn 187 [X1]) 0,
 O p2 (.mv X3) 1] false
def F150 : CF := .mk 4 [p0] 3 (.seq c150_0 (.seq c150_1 .ret)) [.t p2] 0
/- (*strings.Builder).WriteByte -/
def c151_0 : CC := .reg [
 O p4 (.mv (.c .nili)) 0] false
def c151_1 : CC := .reg [
 O p5 (.mv X0) 0,
 O p6 (.call (.c (.fn 161 [])) [X5]) 1] false
def c151_2 : CC := .reg [
 O p7 (.mv X0) 0,
 O p8 (.mv X0) 1,
 O p9 (.nilck X8) 2,
 O p10 (.faddr 1 X9) 3,
 O p11 (.load 1 false X10) 4,
 O p12 (.mv X1) 5,
 O p13 (.bslice 5 1 [(.int .u8 0)] 1 [(0, X12)]) 6,
 O p14 (.append 5 1 X11 X13) 7,
 O p15 (.nilck X7) 8,
 O p16 (.faddr 1 X15) 9,
 ON (.store 1 X16 X14) 10] false
def c151_3 : CC := .reg [
 O p4 (.mv (.c .nili)) 0] false
def F151 : CF := .mk 17 [p0, p1] 5 (.seq c151_0 (.seq c151_1 (.seq c151_2 (.seq c151_3 .ret)))) [.t p4] 0
/- strings.CutSuffix -/
def c152_0 : CC := .reg [
 O p4 (.mv (.c (.str []))) 0,
 O p5 (.mv (.c (.bool false))) 1] false
def c152_1 : CC := .reg [
 O p6 (.mv X0) 0,
 O p7 (.mv X1) 1,
 O p8 (.call (.c (.fn 189 [])) [X6, X7]) 2,
 O p9 (.ext 0 X8) 3,
 O p10 (.ext 1 X8) 4,
 O p4 (.mv X9) 5,
 O p5 (.mv X10) 6] false
def F152 : CF := .mk 11 [p0, p1] 4 (.seq c152_0 (.seq c152_1 .ret)) [.t p4, .t p5] 3
/- daybook/value.quoted -/
def c153_0 : CC := .reg [
 O p2 (.mv (.c (.str []))) 0,
 O p3 (.mv (.c (.bool false))) 1] false
def c153_1 : CC := .reg [
 O p4 (.alloc 148 [.nilp, .nils]) 0] false
def c153_2 : CC := .reg [
 O p5 (.mv (.c (I 0))) 0] false
def c153_3 : CC := .reg [
 O p8 (.mv X5) 0,
 O p9 (.mv X0) 1,
 O p10 (.len 0 X9) 2,
 O p11 (.bin .lss .num X8 X10) 3] false
def c153_4 : CC := .reg [
 O p12 (.mv X0) 0,
 O p13 (.mv X5) 1,
 O p14 (.index X12 X13) 2,
 O p15 (.call (.c (.fn 190 [])) [X14]) 3] false
def c153_5 : CC := .reg [
 O p16 (.mv X0) 0,
 O p17 (.mv X5) 1,
 O p18 (.index X16 X17) 2,
 O p19 (.call (.c (.fn 151 [])) [X4, X18]) 3] false
def c153_6 : CC := .reg [
 O p20 (.mv X5) 0,
 O p21 (.bin .add .num X20 (.c (I 1))) 1,
 O p5 (.mv X21) 2] false
def c153_7 : CC := .reg [
 O p23 (.mv X0) 0,
 O p24 (.mv X5) 1,
 O p25 (.bin .add .num X24 (.c (I 1))) 2,
 O p26 (.slices X23 (some X25) none) 3,
 O p27 (.call (.c (.fn 188 [])) [X26]) 4,
 O p22 (.mv X27) 5,
 O p28 (.ext 0 X22) 6,
 O p29 (.ext 1 X22) 7,
 O p6 (.mv X28) 8,
 O p7 (.mv X29) 9] false
def c153_8 : CC := .reg [
 O p30 (.mv X0) 0,
 O p31 (.mv X5) 1,
 O p32 (.index X30 X31) 2,
 O p33 (.bin .neq .num X32 (.c (.int .u8 92))) 3,
 O p34 (.mv X33) 4,
 OG p35 p34 false (.mv X7) 5,
 OG p36 p34 false (.un .not X35) 6,
 O p37 (.pick X34 (.c (.bool true)) X36) 7,
 O p38 (.mv X37) 8,
 OG p39 p38 false (.mv X6) 9,
 OG p40 p38 false (.call (.c (.fn 190 [])) [X39]) 10,
 O p41 (.pick X38 (.c (.bool true)) X40) 11] false
def c153_9 : CC := .reg [
 O p2 (.mv (.c (.str []))) 0,
 O p3 (.mv (.c (.bool false))) 1] false
def c153_10 : CC := .reg [
 O p42 (.mv X6) 0,
 O p43 (.call (.c (.fn 151 [])) [X4, X42]) 1] false
def c153_11 : CC := .reg [
 O p44 (.mv X5) 0,
 O p45 (.bin .add .num X44 (.c (I 3))) 1,
 O p5 (.mv X45) 2] false
def c153_12 : CC := .loop (.seq (.seq c153_3 (.cond X11 .skip (.exit 0))) (.blk 1 (.seq (.seq c153_4 (.cond X15 (.seq c153_5 (.seq c153_6 (.exit 1))) .skip)) (.seq c153_7 (.seq (.seq c153_8 (.cond X41 (.seq c153_9 .ret) .skip)) (.seq c153_10 c153_11))))))
def c153_13 : CC := .reg [
 O p46 (.call (.c (.fn 86 [])) [X4]) 0,
 O p2 (.mv X46) 1,
 O p3 (.mv (.c (.bool true))) 2] false
def F153 : CF := .mk 47 [p0] 6 (.seq c153_0 (.scope (.seq c153_1 (.seq c153_2 (.seq .skip (.seq (.blk 0 c153_12) (.seq c153_13 .ret))))))) [.t p2, .t p3] 3
/- daybook/value.word -/
def c154_0 : CC := .reg [
 O p2 (.mv (.c (.bool false))) 0] false
def c154_1 : CC := .reg [
 O p5 (.mv X0) 0,
 O p6 (.s2b X5) 1,
 O p7 (.len 1 X6) 2,
 O p8 (.mv (.c (I 0))) 3] false
def c154_2 : CC := .reg [
 O p9 (.bin .lss .num X8 X7) 0] false
def c154_3 : CC := .reg [
 O p10 (.mv X8) 0,
 O p11 (.iaddr 1 X6 X8) 1,
 O p12 (.load 1 false X11) 2,
 O p3 (.mv X10) 3,
 O p4 (.mv X12) 4] false
def c154_4 : CC := .reg [
 O p14 (.mv X4) 0,
 O p15 (.bin .geq .num X14 (.c (.int .u8 97))) 1,
 O p16 (.mv X15) 2,
 OG p17 p16 true (.mv X4) 3,
 OG p18 p16 true (.bin .leq .num X17 (.c (.int .u8 122))) 4,
 O p19 (.pick X16 X18 (.c (.bool false))) 5,
 O p13 (.mv X19) 6] false
def c154_5 : CC := .reg [
 O p21 (.mv X3) 0,
 O p22 (.bin .gtr .num X21 (.c (I 0))) 1,
 O p23 (.mv X22) 2,
 OG p24 p23 true (.mv X4) 3,
 OG p25 p23 true (.bin .geq .num X24 (.c (.int .u8 48))) 4,
 OG p26 p23 true (.mv X25) 5,
 OG p27 p26 true (.mv X4) 6,
 OG p28 p26 true (.bin .leq .num X27 (.c (.int .u8 57))) 7,
 OG p29 p23 true (.pick X26 X28 (.c (.bool false))) 8,
 OG p30 p23 true (.mv X29) 9,
 OG p31 p30 false (.mv X4) 10,
 OG p32 p30 false (.bin .eql .num X31 (.c (.int .u8 46))) 11,
 OG p33 p23 true (.pick X30 (.c (.bool true)) X32) 12,
 OG p34 p23 true (.mv X33) 13,
 OG p35 p34 false (.mv X4) 14,
 OG p36 p34 false (.bin .eql .num X35 (.c (.int .u8 95))) 15,
 OG p37 p23 true (.pick X34 (.c (.bool true)) X36) 16,
 OG p38 p23 true (.mv X37) 17,
 OG p39 p38 false (.mv X4) 18,
 OG p40 p38 false (.bin .eql .num X39 (.c (.int .u8 45))) 19,
 OG p41 p23 true (.pick X38 (.c (.bool true)) X40) 20,
 OG p42 p23 true (.mv X41) 21,
 OG p43 p42 false (.mv X4) 22,
 OG p44 p42 false (.bin .eql .num X43 (.c (.int .u8 47))) 23,
 OG p45 p23 true (.pick X42 (.c (.bool true)) X44) 24,
 O p46 (.pick X23 X45 (.c (.bool false))) 25,
 O p20 (.mv X46) 26] false
def c154_6 : CC := .reg [
 O p2 (.mv (.c (.bool false))) 0] false
def c154_7 : CC := .reg [
 O p47 (.bin .add .num X8 (.c (I 1))) 0,
 O p8 (.mv X47) 1] false
def c154_8 : CC := .loop (.seq c154_2 (.seq (.cond X9 .skip (.exit 0)) (.seq (.blk 1 (.seq c154_3 (.blk 2 (.seq c154_4 (.cond X13 .skip (.seq c154_5 (.cond X20 .skip (.seq c154_6 .ret)))))))) c154_7)))
def c154_9 : CC := .reg [
 O p48 (.mv X0) 0,
 O p49 (.len 0 X48) 1,
 O p50 (.bin .geq .num X49 (.c (I 1))) 2,
 O p51 (.mv X50) 3,
 OG p52 p51 true (.mv X0) 4,
 OG p53 p51 true (.len 0 X52) 5,
 OG p54 p51 true (.bin .leq .num X53 (.c (I 64))) 6,
 O p55 (.pick X51 X54 (.c (.bool false))) 7,
 O p2 (.mv X55) 8] false
def F154 : CF := .mk 56 [p0] 6 (.seq c154_0 (.seq (.seq c154_1 (.blk 0 c154_8)) (.seq c154_9 .ret))) [.t p2] 1
/- daybook/shape.options -/
def c157_0 : CC := .reg [
 O p4 (.mv (.c (.bool false))) 0] false
def c157_1 : CC := .reg [
 O p7 (.mv X1) 0,
 O p8 (.len 1 X7) 1,
 O p9 (.bin .gtr .num X8 (.c (I 0))) 2,
 O p10 (.mv X9) 3,
 OG p11 p10 true (.mv X1) 4,
 OG p12 p10 true (.iaddr 8 X11 (.c (I 0))) 5,
 OG p13 p10 true (.load 8 true X12) 6,
 OG p14 p10 true (.call (.c (.fn 112 [])) [X13, (.c (.str [98, 97, 99, 107]))]) 7,
 O p15 (.pick X10 X14 (.c (.bool false))) 8] false
def c157_2 : CC := .reg [
 O p16 (.mv X0) 0,
 O p17 (.nilck X16) 1,
 O p18 (.faddr 2 X17) 2,
 ON (.store 1 X18 (.c (.bool true))) 3] false
def c157_3 : CC := .reg [
 O p19 (.mv X1) 0,
 O p20 (.slice 8 X19 (some (.c (I 1))) none none) 1,
 O p1 (.mv X20) 2] false
def c157_4 : CC := .reg [
 O p21 (.mv X1) 0,
 O p22 (.len 1 X21) 1,
 O p23 (.bin .gtr .num X22 (.c (I 1))) 2,
 O p24 (.mv X23) 3,
 OG p25 p24 true (.mv X1) 4,
 OG p26 p24 true (.iaddr 8 X25 (.c (I 0))) 5,
 OG p27 p24 true (.load 8 true X26) 6,
 OG p28 p24 true (.call (.c (.fn 112 [])) [X27, (.c (.str [108, 105, 109, 105, 116]))]) 7,
 O p29 (.pick X24 X28 (.c (.bool false))) 8] false
def c157_5 : CC := .reg [
 O p31 (.mv X1) 0,
 O p32 (.iaddr 8 X31 (.c (I 1))) 1,
 O p33 (.load 8 true X32) 2,
 O p34 (.call (.c (.fn 114 [])) [X33]) 3,
 O p30 (.mv X34) 4,
 O p35 (.ext 0 X30) 5,
 O p36 (.ext 1 X30) 6,
 O p5 (.mv X35) 7,
 O p6 (.mv X36) 8] false
def c157_6 : CC := .reg [
 O p37 (.mv X6) 0,
 O p38 (.un .not X37) 1] false
def c157_7 : CC := .reg [
 O p4 (.mv (.c (.bool false))) 0] false
def c157_8 : CC := .reg [
 O p39 (.mv X0) 0,
 O p40 (.mv X5) 1,
 O p41 (.nilck X39) 2,
 O p42 (.faddr 3 X41) 3,
 ON (.store 1 X42 X40) 4] false
def c157_9 : CC := .reg [
 O p43 (.mv X1) 0,
 O p44 (.slice 8 X43 (some (.c (I 2))) none none) 1,
 O p1 (.mv X44) 2] false
def c157_10 : CC := .reg [
 O p45 (.mv X1) 0,
 O p46 (.len 1 X45) 1,
 O p47 (.bin .gtr .num X46 (.c (I 1))) 2,
 O p48 (.mv X47) 3,
 OG p49 p48 true (.mv X1) 4,
 OG p50 p48 true (.iaddr 8 X49 (.c (I 0))) 5,
 OG p51 p48 true (.load 8 true X50) 6,
 OG p52 p48 true (.call (.c (.fn 112 [])) [X51, (.c (.str [100, 101, 102, 97, 117, 108, 116]))]) 7,
 O p53 (.pick X48 X52 (.c (.bool false))) 8,
 O p54 (.mv X53) 9,
 OG p55 p54 true (.mv X1) 10,
 OG p56 p54 true (.iaddr 8 X55 (.c (I 1))) 11,
 OG p57 p54 true (.faddr 0 X56) 12,
 OG p58 p54 true (.load 1 false X57) 13,
 OG p59 p54 true (.bin .eql .num X58 (.c (I 1))) 14,
 O p60 (.pick X54 X59 (.c (.bool false))) 15] false
def c157_11 : CC := .reg [
 O p61 (.mv X0) 0,
 O p62 (.mv X0) 1,
 O p63 (.mv X1) 2,
 O p64 (.iaddr 8 X63 (.c (I 1))) 3,
 O p65 (.faddr 1 X64) 4,
 O p66 (.load 3 true X65) 5,
 O p67 (.nilck X61) 6,
 O p68 (.faddr 4 X67) 7,
 ON (.store 1 X68 (.c (.bool true))) 8,
 O p69 (.nilck X62) 9,
 O p70 (.faddr 5 X69) 10,
 ON (.store 3 X70 X66) 11] false
def c157_12 : CC := .reg [
 O p71 (.mv X1) 0,
 O p72 (.slice 8 X71 (some (.c (I 2))) none none) 1,
 O p1 (.mv X72) 2] false
def c157_13 : CC := .reg [
 O p73 (.mv X1) 0,
 O p74 (.len 1 X73) 1,
 O p75 (.bin .eql .num X74 (.c (I 0))) 2,
 O p4 (.mv X75) 3] false
def F157 : CF := .mk 76 [p0, p1] 7 (.seq c157_0 (.seq (.seq c157_1 (.cond X15 (.seq c157_2 c157_3) .skip)) (.seq (.seq c157_4 (.cond X29 (.seq c157_5 (.seq (.seq c157_6 (.cond X38 (.seq c157_7 .ret) .skip)) (.seq c157_8 c157_9))) .skip)) (.seq (.seq c157_10 (.cond X60 (.seq c157_11 c157_12) .skip)) (.seq c157_13 .ret))))) [.t p4] 2
/- daybook/shape.said -/
def c158_0 : CC := .reg [
 O p1 (.box 34 X0) 0,
 O p2 (.alloc 36 [I 0, I 0, I 0, (.str []), (.str []), .nils, I 0, I 0]) 1] false
def c158_1 : CC := .reg [
 O p3 (.load 3 true X1) 0,
 O p4 (.build [I 0, I 0, I 0, (.str []), (.str []), .nils, I 0, I 0] [(0, 1, (.c (I 1))), (1, 3, X3)]) 1,
 ON (.store 8 X2 X4) 2] false
def F158 : CF := .mk 5 [p0] 3 (.seq c158_0 (.seq c158_1 .ret)) [.cell p2 8 true] 3
/- daybook/daybookref01.lower -/
def c159_0 : CC := .reg [
 O p2 (.mv (.c (.bool false))) 0] false
def c159_1 : CC := .reg [
 O p3 (.mv X0) 0,
 O p4 (.bin .geq .num X3 (.c (.int .u8 97))) 1,
 O p5 (.mv X4) 2,
 OG p6 p5 true (.mv X0) 3,
 OG p7 p5 true (.bin .leq .num X6 (.c (.int .u8 122))) 4,
 O p8 (.pick X5 X7 (.c (.bool false))) 5,
 O p2 (.mv X8) 6] false
def F159 : CF := .mk 9 [p0] 4 (.seq c159_0 (.seq c159_1 .ret)) [.t p2] 3
/- daybook/daybookref01.digit -/
def c160_0 : CC := .reg [
 O p2 (.mv (.c (.bool false))) 0] false
def c160_1 : CC := .reg [
 O p3 (.mv X0) 0,
 O p4 (.bin .geq .num X3 (.c (.int .u8 48))) 1,
 O p5 (.mv X4) 2,
 OG p6 p5 true (.mv X0) 3,
 OG p7 p5 true (.bin .leq .num X6 (.c (.int .u8 57))) 4,
 O p8 (.pick X5 X7 (.c (.bool false))) 5,
 O p2 (.mv X8) 6] false
def F160 : CF := .mk 9 [p0] 4 (.seq c160_0 (.seq c160_1 .ret)) [.t p2] 3
/- daybook/value.Text -/
def c162_0 : CC := .reg [
 O p1 (.box 34 X0) 0,
 O p2 (.mv (.c (.str []))) 1,
 O p3 (.mv (.c (I 0))) 2] false
def c162_1 : CC := .reg [
 O p9 (.load 3 true X1) 0,
 O p10 (.call (.c (.fn 107 [])) [X9]) 1,
 O p11 (.un .not X10) 2] false
def c162_2 : CC := .reg [
 O p2 (.mv (.c (.str []))) 0,
 O p3 (.mv (.c (I 10))) 1] false
def c162_3 : CC := .reg [
 O p4 (.alloc 148 [.nilp, .nils]) 0] false
def c162_4 : CC := .reg [
 O p12 (.faddr 0 X1) 0,
 O p13 (.load 1 false X12) 1] false
def c162_5 : CC := .reg [
 O p15 (.bin .eql .num X13 (.c (I 1))) 0,
 O p14 (.mv X15) 1] false
def c162_6 : CC := .reg [
 O p16 (.faddr 1 X1) 0,
 O p17 (.load 1 false X16) 1,
 O p18 (.call (.c (.fn 186 [])) [X17, (.c (I 10))]) 2,
 O p2 (.mv X18) 3,
 O p3 (.mv (.c (I 0))) 4] false
def c162_7 : CC := .reg [
 O p20 (.bin .eql .num X13 (.c (I 2))) 0,
 O p19 (.mv X20) 1] false
def c162_8 : CC := .reg [
 O p21 (.faddr 1 X1) 0,
 O p22 (.load 1 false X21) 1,
 O p23 (.bin .eql .num X22 (.c (I 1))) 2,
 O p24 (.call (.c (.fn 195 [])) [X23]) 3,
 O p2 (.mv X24) 4,
 O p3 (.mv (.c (I 0))) 5] false
def c162_9 : CC := .reg [
 O p26 (.bin .eql .num X13 (.c (I 5))) 0,
 O p25 (.mv X26) 1] false
def c162_10 : CC := .reg [
 O p27 (.faddr 1 X1) 0,
 O p28 (.load 1 false X27) 1,
 O p29 (.call (.c (.fn 186 [])) [X28, (.c (I 10))]) 2,
 O p30 (.bin .add .num (.c (.str [64])) X29) 3,
 O p2 (.mv X30) 4,
 O p3 (.mv (.c (I 0))) 5] false
def c162_11 : CC := .reg [
 O p32 (.bin .eql .num X13 (.c (I 6))) 0,
 O p31 (.mv X32) 1] false
def c162_12 : CC := .reg [
 O p33 (.faddr 1 X1) 0,
 O p34 (.load 1 false X33) 1,
 O p35 (.call (.c (.fn 186 [])) [X34, (.c (I 10))]) 2,
 O p36 (.bin .add .num (.c (.str [33])) X35) 3,
 O p2 (.mv X36) 4,
 O p3 (.mv (.c (I 0))) 5] false
def c162_13 : CC := .reg [
 O p38 (.bin .eql .num X13 (.c (I 7))) 0,
 O p37 (.mv X38) 1] false
def c162_14 : CC := .reg [
 O p39 (.faddr 2 X1) 0,
 O p40 (.load 1 false X39) 1,
 O p41 (.bin .add .num (.c (.str [58])) X40) 2,
 O p2 (.mv X41) 3,
 O p3 (.mv (.c (I 0))) 4] false
def c162_15 : CC := .reg [
 O p43 (.bin .eql .num X13 (.c (I 4))) 0,
 O p42 (.mv X43) 1] false
def c162_16 : CC := .reg [
 O p44 (.call (.c (.fn 151 [])) [X4, (.c (.int .u8 35))]) 0] false
def c162_17 : CC := .reg [
 O p45 (.faddr 2 X1) 0,
 O p46 (.load 1 false X45) 1,
 O p47 (.s2b X46) 2,
 O p48 (.len 1 X47) 3,
 O p49 (.mv (.c (I 0))) 4] false
def c162_18 : CC := .reg [
 O p50 (.bin .lss .num X49 X48) 0] false
def c162_19 : CC := .reg [
 O p51 (.iaddr 1 X47 X49) 0,
 O p52 (.load 1 false X51) 1,
 O p6 (.mv X52) 2] false
def c162_20 : CC := .reg [
 O p53 (.mv X6) 0,
 O p54 (.call (.c (.fn 196 [])) [X53]) 1,
 O p55 (.call (.c (.fn 123 [])) [X4, X54]) 2] false
def c162_21 : CC := .reg [
 O p56 (.bin .add .num X49 (.c (I 1))) 0,
 O p49 (.mv X56) 1] false
def c162_22 : CC := .loop (.seq c162_18 (.seq (.cond X50 .skip (.exit 1)) (.seq (.blk 2 (.seq c162_19 c162_20)) c162_21)))
def c162_23 : CC := .reg [
 O p57 (.call (.c (.fn 86 [])) [X4]) 0,
 O p2 (.mv X57) 1,
 O p3 (.mv (.c (I 0))) 2] false
def c162_24 : CC := .reg [
 O p58 (.call (.c (.fn 151 [])) [X4, (.c (.int .u8 34))]) 0] false
def c162_25 : CC := .reg [
 O p59 (.faddr 2 X1) 0,
 O p60 (.load 1 false X59) 1,
 O p61 (.s2b X60) 2,
 O p62 (.len 1 X61) 3,
 O p63 (.mv (.c (I 0))) 4] false
def c162_26 : CC := .reg [
 O p64 (.bin .lss .num X63 X62) 0] false
def c162_27 : CC := .reg [
 O p65 (.iaddr 1 X61 X63) 0,
 O p66 (.load 1 false X65) 1,
 O p8 (.mv X66) 2] false
def c162_28 : CC := .reg [
 O p67 (.mv X8) 0,
 O p68 (.call (.c (.fn 190 [])) [X67]) 1] false
def c162_29 : CC := .reg [
 O p69 (.mv X8) 0,
 O p70 (.call (.c (.fn 151 [])) [X4, X69]) 1] false
def c162_30 : CC := .reg [
 O p71 (.mv X8) 0,
 O p72 (.call (.c (.fn 196 [])) [X71]) 1,
 O p73 (.bin .add .num (.c (.str [92])) X72) 2,
 O p74 (.call (.c (.fn 123 [])) [X4, X73]) 3] false
def c162_31 : CC := .reg [
 O p75 (.bin .add .num X63 (.c (I 1))) 0,
 O p63 (.mv X75) 1] false
def c162_32 : CC := .loop (.seq c162_26 (.seq (.cond X64 .skip (.exit 3)) (.seq (.blk 4 (.seq c162_27 (.seq c162_28 (.cond X68 c162_29 c162_30)))) c162_31)))
def c162_33 : CC := .reg [
 O p76 (.call (.c (.fn 86 [])) [X4]) 0,
 O p77 (.bin .add .num X76 (.c (.str [34]))) 1,
 O p2 (.mv X77) 2,
 O p3 (.mv (.c (I 0))) 3] false
def F162 : CF := .mk 78 [p0] 7 (.seq c162_0 (.seq (.seq c162_1 (.cond X11 (.seq c162_2 .ret) .skip)) (.seq c162_3 (.seq (.seq c162_4 (.blk 0 (.seq c162_5 (.cond X14 (.seq c162_6 .ret) (.seq c162_7 (.cond X19 (.seq c162_8 .ret) (.seq c162_9 (.cond X25 (.seq c162_10 .ret) (.seq c162_11 (.cond X31 (.seq c162_12 .ret) (.seq c162_13 (.cond X37 (.seq c162_14 .ret) (.seq c162_15 (.cond X42 (.seq c162_16 (.seq (.seq c162_17 (.blk 1 c162_22)) (.seq c162_23 .ret))) .skip)))))))))))))) (.seq c162_24 (.seq (.seq c162_25 (.blk 3 c162_32)) (.seq c162_33 .ret))))))) [.t p2, .t p3] 3
/- daybook/datom.Check -/
def c163_0 : CC := .reg [
 O p1 (.box 154 X0) 0,
 O p2 (.mv (.c (I 0))) 1] false
def c163_1 : CC := .reg [
 O p3 (.load 9 true X1) 0,
 O p4 (.call (.c (.fn 197 [])) [X3]) 1,
 O p5 (.un .not X4) 2] false
def c163_2 : CC := .reg [
 O p2 (.mv (.c (I 40))) 0] false
def c163_3 : CC := .reg [
 O p2 (.mv (.c (I 0))) 0] false
def F163 : CF := .mk 6 [p0] 3 (.seq c163_0 (.seq (.seq c163_1 (.cond X5 (.seq c163_2 .ret) .skip)) (.seq c163_3 .ret))) [.t p2] 3
/- daybook/span.Check -/
def c164_0 : CC := .reg [
 O p2 (.mv (.c (I 0))) 0] false
def c164_1 : CC := .reg [
 O p3 (.mv X0) 0,
 O p4 (.call (.c (.fn 198 [])) [X3]) 1,
 O p5 (.un .not X4) 2] false
def c164_2 : CC := .reg [
 O p2 (.mv (.c (I 30))) 0] false
def c164_3 : CC := .reg [
 O p2 (.mv (.c (I 0))) 0] false
def F164 : CF := .mk 6 [p0] 3 (.seq c164_0 (.seq (.seq c164_1 (.cond X5 (.seq c164_2 .ret) .skip)) (.seq c164_3 .ret))) [.t p2] 3
/- cmp.Compare[int64] -/
def c165_0 : CC := .reg [
 O p4 (.mv (.c (I 0))) 0] false
def c165_1 : CC := .reg [
 O p7 (.mv X0) 0,
 O p8 (.call (.c (.fn 199 [])) [X7]) 1,
 O p5 (.mv X8) 2] false
def c165_2 : CC := .reg [
 O p9 (.mv X1) 0,
 O p10 (.call (.c (.fn 199 [])) [X9]) 1,
 O p6 (.mv X10) 2] false
def c165_3 : CC := .reg [
 O p11 (.mv X5) 0] false
def c165_4 : CC := .reg [
 O p12 (.mv X6) 0] false
def c165_5 : CC := .reg [
 O p4 (.mv (.c (I 0))) 0] false
def c165_6 : CC := .reg [
 O p4 (.mv (.c (I (-1)))) 0] false
def c165_7 : CC := .reg [
 O p13 (.mv X6) 0] false
def c165_8 : CC := .reg [
 O p4 (.mv (.c (I 1))) 0] false
def c165_9 : CC := .reg [
 O p14 (.mv X0) 0,
 O p15 (.mv X1) 1,
 O p16 (.bin .lss .num X14 X15) 2] false
def c165_10 : CC := .reg [
 O p4 (.mv (.c (I (-1)))) 0] false
def c165_11 : CC := .reg [
 O p17 (.mv X0) 0,
 O p18 (.mv X1) 1,
 O p19 (.bin .gtr .num X17 X18) 2] false
def c165_12 : CC := .reg [
 O p4 (.mv (.c (I 1))) 0] false
def c165_13 : CC := .reg [
 O p4 (.mv (.c (I 0))) 0] false
def F165 : CF := .mk 20 [p0, p1] 5 (.seq c165_0 (.seq c165_1 (.seq c165_2 (.seq (.seq c165_3 (.cond X11 (.seq (.seq c165_4 (.cond X12 (.seq c165_5 .ret) .skip)) (.seq c165_6 .ret)) .skip)) (.seq (.seq c165_7 (.cond X13 (.seq c165_8 .ret) .skip)) (.seq (.seq c165_9 (.cond X16 (.seq c165_10 .ret) .skip)) (.seq (.seq c165_11 (.cond X19 (.seq c165_12 .ret) .skip)) (.seq c165_13 .ret)))))))) [.t p4] 3
/- daybook/value.Compare -/
def c166_0 : CC := .reg [
 O p2 (.box 34 X0) 0,
 O p3 (.box 34 X1) 1,
 O p4 (.mv (.c (I 0))) 2] false
def c166_1 : CC := .reg [
 O p5 (.faddr 0 X2) 0,
 O p6 (.load 1 false X5) 1,
 O p7 (.faddr 0 X3) 2,
 O p8 (.load 1 false X7) 3,
 O p10 (.faddr 1 X2) 5,
 .mk (some p11) none (.load 1 false X10) [12] 6,
 O p12 (.faddr 1 X3) 7,
 .mk (some p13) none (.load 1 false X12) [12] 8,
 O p15 (.faddr 2 X2) 10,
 .mk (some p16) none (.load 1 false X15) [12, 13] 11,
 O p17 (.faddr 2 X3) 12,
 .mk (some p18) none (.load 1 false X17) [12, 13] 13,
 O p9 (.call (.c (.fn 141 [])) [X6, X8]) 4,
 O p14 (.call (.c (.fn 165 [])) [X11, X13]) 9,
 O p19 (.call (.c (.fn 140 [])) [X16, X18]) 14,
 O p20 (.bslice 3 1 [I 0] 3 [(0, X9), (1, X14), (2, X19)]) 15,
 O p21 (.call (.c (.fn 139 [])) [X20]) 16,
 O p4 (.mv X21) 17] true
def F166 : CF := .mk 22 [p0, p1] 5 (.seq c166_0 (.seq c166_1 .ret)) [.t p4] 3
/- slices.IndexFunc[[]daybook/api.Fact,daybook/api.Fact] -/
def c167_0 : CC := .reg [
 O p4 (.mv (.c (I 0))) 0] false
def c167_1 : CC := .reg [
 O p6 (.mv X0) 0,
 O p7 (.len 1 X6) 1,
 O p8 (.mv (.c (I 0))) 2] false
def c167_2 : CC := .reg [
 O p9 (.bin .lss .num X8 X7) 0] false
def c167_3 : CC := .reg [
 O p10 (.mv X8) 0,
 O p5 (.mv X10) 1] false
def c167_4 : CC := .reg [
 O p11 (.mv X1) 0,
 O p12 (.mv X0) 1,
 O p13 (.mv X5) 2,
 O p14 (.iaddr 6 X12 X13) 3,
 O p15 (.load 6 true X14) 4,
 O p16 (.call X11 [X15]) 5] false
def c167_5 : CC := .reg [
 O p17 (.mv X5) 0,
 O p4 (.mv X17) 1] false
def c167_6 : CC := .reg [
 O p18 (.bin .add .num X8 (.c (I 1))) 0,
 O p8 (.mv X18) 1] false
def c167_7 : CC := .loop (.seq c167_2 (.seq (.cond X9 .skip (.exit 0)) (.seq (.blk 1 (.seq c167_3 (.seq c167_4 (.cond X16 (.seq c167_5 .ret) .skip)))) c167_6)))
def c167_8 : CC := .reg [
 O p4 (.mv (.c (I (-1)))) 0] false
def F167 : CF := .mk 19 [p0, p1] 5 (.seq c167_0 (.seq (.seq c167_1 (.blk 0 c167_7)) (.seq c167_8 .ret))) [.t p4] 2
/- (*daybook/pull.puller).values$1 -/
def c168_0 : CC := .reg [
 O p8 (.load 1 false X1) 0,
 O p9 (.nilck X8) 1,
 O p10 (.faddr 0 X9) 2,
 O p11 (.load 1 false X10) 3,
 O p12 (.len 1 X11) 4,
 O p13 (.mv (.c (I 0))) 5] false
def c168_1 : CC := .reg [
 O p14 (.bin .lss .num X13 X12) 0] false
def c168_2 : CC := .reg [
 O p15 (.iaddr 6 X11 X13) 0,
 O p16 (.load 6 true X15) 1,
 O p7 (.alloc 71 [I 0, I 0, I 0, I 0, (.str []), .nils]) 2,
 ON (.store 6 X7 X16) 3] false
def c168_3 : CC := .reg [
 O p18 (.faddr 1 X7) 0,
 O p19 (.load 1 false X18) 1,
 O p20 (.load 1 false X2) 2,
 O p21 (.bin .neq .num X19 X20) 3,
 O p17 (.mv X21) 4] false
def c168_4 : CC := .reg [
 O p23 (.faddr 2 X3) 0,
 O p24 (.load 1 false X23) 1,
 O p25 (.un .not X24) 2,
 O p26 (.mv X25) 3,
 OG p27 p26 true (.faddr 0 X7) 4,
 OG p28 p26 true (.load 1 false X27) 5,
 OG p29 p26 true (.load 1 false X4) 6,
 OG p30 p26 true (.bin .eql .num X28 X29) 7,
 O p31 (.pick X26 X30 (.c (.bool false))) 8,
 O p22 (.mv X31) 9] false
def c168_5 : CC := .reg [
 O p32 (.mv X0) 0,
 O p33 (.faddr 2 X7) 1,
 O p34 (.load 3 true X33) 2,
 O p35 (.call X32 [X34]) 3,
 O p36 (.un .not X35) 4] false
def c168_6 : CC := .reg [
 O p38 (.faddr 2 X3) 0,
 O p39 (.load 1 false X38) 1,
 O p40 (.mv X39) 2,
 OG p41 p40 true (.faddr 2 X7) 3,
 OG p42 p40 true (.faddr 0 X41) 4,
 OG p43 p40 true (.load 1 false X42) 5,
 OG p44 p40 true (.bin .eql .num X43 (.c (I 5))) 6,
 O p45 (.pick X40 X44 (.c (.bool false))) 7,
 O p46 (.mv X45) 8,
 OG p47 p46 true (.faddr 2 X7) 9,
 OG p48 p46 true (.faddr 1 X47) 10,
 OG p49 p46 true (.load 1 false X48) 11,
 OG p50 p46 true (.load 1 false X4) 12,
 OG p51 p46 true (.bin .eql .num X49 X50) 13,
 O p52 (.pick X46 X51 (.c (.bool false))) 14,
 O p37 (.mv X52) 15] false
def c168_7 : CC := .reg [
 O p53 (.mv X0) 0,
 O p54 (.faddr 0 X7) 1,
 O p55 (.load 1 false X54) 2,
 O p56 (.build [I 0, I 0, (.str [])] [(0, 1, (.c (I 5))), (1, 1, X55)]) 3,
 O p57 (.call X53 [X56]) 4,
 O p58 (.un .not X57) 5] false
def c168_8 : CC := .reg [
 O p59 (.bin .add .num X13 (.c (I 1))) 0,
 O p13 (.mv X59) 1] false
def c168_9 : CC := .loop (.seq c168_1 (.seq (.cond X14 .skip (.exit 0)) (.seq (.blk 1 (.seq c168_2 (.blk 2 (.seq c168_3 (.cond X17 .skip (.seq c168_4 (.cond X22 (.seq c168_5 (.cond X36 .ret .skip)) (.seq c168_6 (.cond X37 (.seq c168_7 (.cond X58 .ret .skip)) .skip))))))))) c168_8)))
def F168 : CF := .mk 60 [p0, p1, p2, p3, p4] 6 (.seq c168_0 (.blk 0 c168_9)) [] 0
/- daybook/pull.within -/
def c169_0 : CC := .reg [
 O p4 (.box 44 X0) 0,
 O p8 (.mv (.c .nils)) 1,
 O p9 (.mv (.c (.bool false))) 2] false
def c169_1 : CC := .reg [
 O p13 (.faddr 8 X4) 0,
 O p14 (.load 1 false X13) 1,
 O p12 (.mv X14) 2] false
def c169_2 : CC := .reg [
 O p15 (.faddr 9 X4) 0,
 O p16 (.load 1 false X15) 1,
 O p8 (.mv X16) 2,
 O p9 (.mv (.c (.bool true))) 3] false
def c169_3 : CC := .reg [
 O p18 (.faddr 10 X4) 0,
 O p19 (.load 1 false X18) 1,
 O p20 (.bin .eql .num X19 (.c (I 0))) 2,
 O p21 (.mv X20) 3,
 OG p22 p21 false (.mv X3) 4,
 OG p23 p21 false (.mv X2) 5,
 OG p24 p21 false (.call (.c (.fn 200 [])) [X22, X23]) 6,
 O p25 (.pick X21 (.c (.bool true)) X24) 7,
 O p17 (.mv X25) 8] false
def c169_4 : CC := .reg [
 O p8 (.mv (.c .nils)) 0,
 O p9 (.mv (.c (.bool false))) 1] false
def c169_5 : CC := .reg [
 O p27 (.faddr 10 X4) 0,
 O p28 (.load 1 false X27) 1,
 O p29 (.bin .lss .num X28 (.c (I 0))) 2,
 O p26 (.mv X29) 3] false
def c169_6 : CC := .reg [
 O p30 (.mv X1) 0,
 O p8 (.mv X30) 1,
 O p9 (.mv (.c (.bool true))) 2] false
def c169_7 : CC := .reg [
 O p31 (.mv X1) 0,
 O p32 (.call (.c (.fn 130 [])) [X31]) 1,
 O p10 (.mv X32) 2] false
def c169_8 : CC := .reg [
 O p33 (.mv X10) 0,
 O p34 (.len 1 X33) 1,
 O p35 (.mv (.c (I 0))) 2] false
def c169_9 : CC := .reg [
 O p36 (.bin .lss .num X35 X34) 0] false
def c169_10 : CC := .reg [
 O p37 (.mv X35) 0,
 O p11 (.mv X37) 1] false
def c169_11 : CC := .reg [
 O p38 (.mv X10) 0,
 O p39 (.mv X11) 1,
 O p40 (.iaddr 11 X38 X39) 2,
 O p41 (.faddr 1 X40) 3,
 O p42 (.load 1 false X41) 4,
 O p43 (.faddr 1 X4) 5,
 O p44 (.load 1 false X43) 6,
 O p45 (.bin .eql .num X42 X44) 7,
 O p46 (.mv X45) 8,
 OG p47 p46 true (.mv X10) 9,
 OG p48 p46 true (.mv X11) 10,
 OG p49 p46 true (.iaddr 11 X47 X48) 11,
 OG p50 p46 true (.faddr 2 X49) 12,
 OG p51 p46 true (.load 1 false X50) 13,
 OG p52 p46 true (.faddr 2 X4) 14,
 OG p53 p46 true (.load 1 false X52) 15,
 OG p54 p46 true (.bin .eql .bool X51 X53) 16,
 O p55 (.pick X46 X54 (.c (.bool false))) 17,
 O p56 (.mv X55) 18,
 OG p57 p56 true (.mv X10) 19,
 OG p58 p56 true (.mv X11) 20,
 OG p59 p56 true (.iaddr 11 X57 X58) 21,
 OG p60 p56 true (.faddr 0 X59) 22,
 OG p61 p56 true (.load 1 false X60) 23,
 OG p62 p56 true (.un .not X61) 24,
 O p63 (.pick X56 X62 (.c (.bool false))) 25] true
def c169_12 : CC := .reg [
 O p64 (.mv X10) 0,
 O p65 (.mv X11) 1,
 O p66 (.iaddr 11 X64 X65) 2,
 O p67 (.faddr 10 X66) 3,
 O p68 (.load 1 false X67) 4,
 O p69 (.bin .sub .num X68 (.c (I 1))) 5,
 O p70 (.iaddr 11 X64 X65) 6,
 O p71 (.faddr 10 X70) 7,
 ON (.store 1 X71 X69) 8] false
def c169_13 : CC := .reg [
 O p72 (.bin .add .num X35 (.c (I 1))) 0,
 O p35 (.mv X72) 1] false
def c169_14 : CC := .loop (.seq c169_9 (.seq (.cond X36 .skip (.exit 1)) (.seq (.blk 2 (.seq c169_10 (.seq c169_11 (.cond X63 c169_12 .skip)))) c169_13)))
def c169_15 : CC := .reg [
 O p73 (.mv X10) 0,
 O p8 (.mv X73) 1,
 O p9 (.mv (.c (.bool true))) 2] false
def F169 : CF := .mk 74 [p0, p1, p2, p3] 7 (.seq c169_0 (.seq (.blk 0 (.seq c169_1 (.cond X12 (.seq c169_2 .ret) (.seq c169_3 (.cond X17 (.seq c169_4 .ret) (.seq c169_5 (.cond X26 (.seq c169_6 .ret) .skip))))))) (.seq c169_7 (.seq (.seq c169_8 (.blk 1 c169_14)) (.seq c169_15 .ret))))) [.t p8, .t p9] 3
/- slices.Clone[[]int64,int64] -/
def c170_0 : CC := .reg [
 O p2 (.mv (.c .nils)) 0] false
def c170_1 : CC := .reg [
 O p3 (.mv X0) 0,
 O p4 (.bin .eql .slice X3 (.c .nils)) 1] false
def c170_2 : CC := .reg [
 O p2 (.mv (.c .nils)) 0] false
def c170_3 : CC := .reg [
 O p5 (.bslice 2 1 [I 0] 0 []) 0,
 O p6 (.mv X0) 1,
 O p7 (.append 2 1 X5 X6) 2,
 O p2 (.mv X7) 3] false
def F170 : CF := .mk 8 [p0] 4 (.seq c170_0 (.seq (.seq c170_1 (.cond X4 (.seq c170_2 .ret) .skip)) (.seq c170_3 .ret))) [.t p2] 0
/- slices.insertionSortCmpFunc[daybook/api.Branch] -/
def c171_0 : CC := .reg [
 O p10 (.mv X1) 0,
 O p11 (.bin .add .num X10 (.c (I 1))) 1,
 O p8 (.mv X11) 2] false
def c171_1 : CC := .reg [
 O p12 (.mv X8) 0,
 O p13 (.mv X2) 1,
 O p14 (.bin .lss .num X12 X13) 2] false
def c171_2 : CC := .reg [
 O p17 (.mv X8) 0,
 O p9 (.mv X17) 1] false
def c171_3 : CC := .reg [
 O p18 (.mv X9) 0,
 O p19 (.mv X1) 1,
 O p20 (.bin .gtr .num X18 X19) 2,
 O p21 (.mv X20) 3,
 OG p22 p21 true (.mv X3) 4,
 OG p23 p21 true (.mv X0) 5,
 OG p24 p21 true (.mv X9) 6,
 OG p25 p21 true (.iaddr 3 X23 X24) 7,
 OG p26 p21 true (.load 3 true X25) 8,
 OG p27 p21 true (.mv X0) 9,
 OG p28 p21 true (.mv X9) 10,
 OG p29 p21 true (.bin .sub .num X28 (.c (I 1))) 11,
 OG p30 p21 true (.iaddr 3 X27 X29) 12,
 OG p31 p21 true (.load 3 true X30) 13,
 OG p32 p21 true (.call X22 [X26, X31]) 14,
 OG p33 p21 true (.bin .lss .num X32 (.c (I 0))) 15,
 O p34 (.pick X21 X33 (.c (.bool false))) 16] true
def c171_4 : CC := .reg [
 O p37 (.mv X0) 0,
 O p38 (.mv X9) 1,
 O p39 (.mv X0) 2,
 O p40 (.mv X9) 3,
 O p41 (.bin .sub .num X40 (.c (I 1))) 4,
 O p42 (.mv X0) 5,
 O p43 (.mv X9) 6,
 O p44 (.bin .sub .num X43 (.c (I 1))) 7,
 O p45 (.iaddr 3 X42 X44) 8,
 O p46 (.load 3 true X45) 9,
 O p47 (.mv X0) 10,
 O p48 (.mv X9) 11,
 O p49 (.iaddr 3 X47 X48) 12,
 O p50 (.load 3 true X49) 13,
 O p51 (.iaddr 3 X37 X38) 14,
 ON (.store 3 X51 X46) 15,
 O p52 (.iaddr 3 X39 X41) 16,
 ON (.store 3 X52 X50) 17] true
def c171_5 : CC := .reg [
 O p35 (.mv X9) 0,
 O p36 (.bin .sub .num X35 (.c (I 1))) 1,
 O p9 (.mv X36) 2] false
def c171_6 : CC := .loop (.seq (.seq c171_3 (.cond X34 .skip (.exit 2))) (.seq (.blk 3 c171_4) c171_5))
def c171_7 : CC := .reg [
 O p15 (.mv X8) 0,
 O p16 (.bin .add .num X15 (.c (I 1))) 1,
 O p8 (.mv X16) 2] false
def c171_8 : CC := .loop (.seq (.seq c171_1 (.cond X14 .skip (.exit 0))) (.seq (.blk 1 (.seq c171_2 (.blk 2 c171_6))) c171_7))
def F171 : CF := .mk 53 [p0, p1, p2, p3] 6 (.seq c171_0 (.blk 0 c171_8)) [] 0
/- slices.heapSortCmpFunc[daybook/api.Branch] -/
def c172_0 : CC := .reg [
 O p13 (.mv X1) 0,
 O p8 (.mv X13) 1] false
def c172_1 : CC := .reg [
 O p9 (.mv (.c (I 0))) 0] false
def c172_2 : CC := .reg [
 O p14 (.mv X2) 0,
 O p15 (.mv X1) 1,
 O p16 (.bin .sub .num X14 X15) 2,
 O p10 (.mv X16) 3] false
def c172_3 : CC := .reg [
 O p17 (.mv X10) 0,
 O p18 (.bin .sub .num X17 (.c (I 1))) 1,
 O p19 (.bin .quo .num X18 (.c (I 2))) 2,
 O p11 (.mv X19) 3] false
def c172_4 : CC := .reg [
 O p20 (.mv X11) 0,
 O p21 (.bin .geq .num X20 (.c (I 0))) 1] false
def c172_5 : CC := .reg [
 O p24 (.mv X0) 0,
 O p25 (.mv X11) 1,
 O p26 (.mv X10) 2,
 O p27 (.mv X8) 3,
 O p28 (.mv X3) 4,
 O p29 (.call (.c (.fn 201 [])) [X24, X25, X26, X27, X28]) 5] false
def c172_6 : CC := .reg [
 O p22 (.mv X11) 0,
 O p23 (.bin .sub .num X22 (.c (I 1))) 1,
 O p11 (.mv X23) 2] false
def c172_7 : CC := .loop (.seq (.seq c172_4 (.cond X21 .skip (.exit 0))) (.seq (.blk 1 c172_5) c172_6))
def c172_8 : CC := .reg [
 O p30 (.mv X10) 0,
 O p31 (.bin .sub .num X30 (.c (I 1))) 1,
 O p12 (.mv X31) 2] false
def c172_9 : CC := .reg [
 O p32 (.mv X12) 0,
 O p33 (.bin .geq .num X32 (.c (I 0))) 1] false
def c172_10 : CC := .reg [
 O p36 (.mv X0) 0,
 O p37 (.mv X8) 1,
 O p38 (.mv X0) 2,
 O p39 (.mv X8) 3,
 O p40 (.mv X12) 4,
 O p41 (.bin .add .num X39 X40) 5,
 O p42 (.mv X0) 6,
 O p43 (.mv X8) 7,
 O p44 (.mv X12) 8,
 O p45 (.bin .add .num X43 X44) 9,
 O p46 (.iaddr 3 X42 X45) 10,
 O p47 (.load 3 true X46) 11,
 O p48 (.mv X0) 12,
 O p49 (.mv X8) 13,
 O p50 (.iaddr 3 X48 X49) 14,
 O p51 (.load 3 true X50) 15,
 O p52 (.iaddr 3 X36 X37) 16,
 ON (.store 3 X52 X47) 17,
 O p53 (.iaddr 3 X38 X41) 18,
 ON (.store 3 X53 X51) 19] true
def c172_11 : CC := .reg [
 O p54 (.mv X0) 0,
 O p55 (.mv X9) 1,
 O p56 (.mv X12) 2,
 O p57 (.mv X8) 3,
 O p58 (.mv X3) 4,
 O p59 (.call (.c (.fn 201 [])) [X54, X55, X56, X57, X58]) 5] false
def c172_12 : CC := .reg [
 O p34 (.mv X12) 0,
 O p35 (.bin .sub .num X34 (.c (I 1))) 1,
 O p12 (.mv X35) 2] false
def c172_13 : CC := .loop (.seq (.seq c172_9 (.cond X33 .skip (.exit 2))) (.seq (.blk 3 (.seq c172_10 c172_11)) c172_12))
def F172 : CF := .mk 60 [p0, p1, p2, p3] 6 (.seq c172_0 (.seq c172_1 (.seq c172_2 (.seq (.seq c172_3 (.blk 0 c172_7)) (.seq c172_8 (.blk 2 c172_13)))))) [] 0
/- slices.breakPatternsCmpFunc[daybook/api.Branch] -/
def c173_0 : CC := .reg [
 O p13 (.mv X2) 0,
 O p14 (.mv X1) 1,
 O p15 (.bin .sub .num X13 X14) 2,
 O p8 (.mv X15) 3] false
def c173_1 : CC := .reg [
 O p16 (.mv X8) 0,
 O p17 (.bin .geq .num X16 (.c (I 8))) 1] false
def c173_2 : CC := .reg [
 O p18 (.mv X8) 0,
 O p19 (.toint .u64 X18) 1,
 O p9 (.alloc 259 [(.int .u64 0)]) 2,
 ON (.store 1 X9 X19) 3] false
def c173_3 : CC := .reg [
 O p20 (.mv X8) 0,
 O p21 (.call (.c (.fn 202 [])) [X20]) 1,
 O p10 (.mv X21) 2] false
def c173_4 : CC := .reg [
 O p22 (.mv X1) 0,
 O p23 (.mv X8) 1,
 O p24 (.bin .quo .num X23 (.c (I 4))) 2,
 O p25 (.bin .mul .num X24 (.c (I 2))) 3,
 O p26 (.bin .add .num X22 X25) 4,
 O p27 (.bin .sub .num X26 (.c (I 1))) 5,
 O p11 (.mv X27) 6] false
def c173_5 : CC := .reg [
 O p28 (.mv X11) 0,
 O p29 (.mv X1) 1,
 O p30 (.mv X8) 2,
 O p31 (.bin .quo .num X30 (.c (I 4))) 3,
 O p32 (.bin .mul .num X31 (.c (I 2))) 4,
 O p33 (.bin .add .num X29 X32) 5,
 O p34 (.bin .add .num X33 (.c (I 1))) 6,
 O p35 (.bin .leq .num X28 X34) 7] false
def c173_6 : CC := .reg [
 O p38 (.call (.c (.fn 203 [])) [X9]) 0,
 O p39 (.mv X10) 1,
 O p40 (.bin .sub .num X39 (.c (.int .u64 1))) 2,
 O p41 (.bin .and .num X38 X40) 3,
 O p42 (.toint .i64 X41) 4,
 O p12 (.mv X42) 5] false
def c173_7 : CC := .reg [
 O p43 (.mv X12) 0,
 O p44 (.mv X8) 1,
 O p45 (.bin .geq .num X43 X44) 2] false
def c173_8 : CC := .reg [
 O p46 (.mv X12) 0,
 O p47 (.mv X8) 1,
 O p48 (.bin .sub .num X46 X47) 2,
 O p12 (.mv X48) 3] false
def c173_9 : CC := .reg [
 O p49 (.mv X0) 0,
 O p50 (.mv X11) 1,
 O p51 (.mv X0) 2,
 O p52 (.mv X1) 3,
 O p53 (.mv X12) 4,
 O p54 (.bin .add .num X52 X53) 5,
 O p55 (.mv X0) 6,
 O p56 (.mv X1) 7,
 O p57 (.mv X12) 8,
 O p58 (.bin .add .num X56 X57) 9,
 O p59 (.iaddr 3 X55 X58) 10,
 O p60 (.load 3 true X59) 11,
 O p61 (.mv X0) 12,
 O p62 (.mv X11) 13,
 O p63 (.iaddr 3 X61 X62) 14,
 O p64 (.load 3 true X63) 15,
 O p65 (.iaddr 3 X49 X50) 16,
 ON (.store 3 X65 X60) 17,
 O p66 (.iaddr 3 X51 X54) 18,
 ON (.store 3 X66 X64) 19] true
def c173_10 : CC := .reg [
 O p36 (.mv X11) 0,
 O p37 (.bin .add .num X36 (.c (I 1))) 1,
 O p11 (.mv X37) 2] false
def c173_11 : CC := .loop (.seq (.seq c173_5 (.cond X35 .skip (.exit 0))) (.seq (.blk 1 (.seq c173_6 (.seq (.seq c173_7 (.cond X45 c173_8 .skip)) c173_9))) c173_10))
def F173 : CF := .mk 67 [p0, p1, p2, p3] 7 (.seq c173_0 (.seq c173_1 (.cond X17 (.seq c173_2 (.seq c173_3 (.seq c173_4 (.blk 0 c173_11)))) .skip))) [] 0
/- slices.choosePivotCmpFunc[daybook/api.Branch] -/
def c174_0 : CC := .reg [
 O p8 (.mv (.c (I 0))) 0,
 O p9 (.mv (.c (I 0))) 1] false
def c174_1 : CC := .reg [
 O p15 (.mv X2) 0,
 O p16 (.mv X1) 1,
 O p17 (.bin .sub .num X15 X16) 2,
 O p10 (.mv X17) 3] false
def c174_2 : CC := .reg [
 O p11 (.alloc 3 [I 0]) 0] false
def c174_3 : CC := .reg [
 O p18 (.mv X1) 0,
 O p19 (.mv X10) 1,
 O p20 (.bin .quo .num X19 (.c (I 4))) 2,
 O p21 (.bin .mul .num X20 (.c (I 1))) 3,
 O p22 (.bin .add .num X18 X21) 4,
 O p12 (.mv X22) 5] false
def c174_4 : CC := .reg [
 O p23 (.mv X1) 0,
 O p24 (.mv X10) 1,
 O p25 (.bin .quo .num X24 (.c (I 4))) 2,
 O p26 (.bin .mul .num X25 (.c (I 2))) 3,
 O p27 (.bin .add .num X23 X26) 4,
 O p13 (.mv X27) 5] false
def c174_5 : CC := .reg [
 O p28 (.mv X1) 0,
 O p29 (.mv X10) 1,
 O p30 (.bin .quo .num X29 (.c (I 4))) 2,
 O p31 (.bin .mul .num X30 (.c (I 3))) 3,
 O p32 (.bin .add .num X28 X31) 4,
 O p14 (.mv X32) 5] false
def c174_6 : CC := .reg [
 O p33 (.mv X10) 0,
 O p34 (.bin .geq .num X33 (.c (I 8))) 1] false
def c174_7 : CC := .reg [
 O p35 (.mv X10) 0,
 O p36 (.bin .geq .num X35 (.c (I 50))) 1] false
def c174_8 : CC := .reg [
 O p37 (.mv X0) 0,
 O p38 (.mv X12) 1,
 O p39 (.mv X3) 2,
 O p40 (.call (.c (.fn 204 [])) [X37, X38, X11, X39]) 3,
 O p12 (.mv X40) 4] false
def c174_9 : CC := .reg [
 O p41 (.mv X0) 0,
 O p42 (.mv X13) 1,
 O p43 (.mv X3) 2,
 O p44 (.call (.c (.fn 204 [])) [X41, X42, X11, X43]) 3,
 O p13 (.mv X44) 4] false
def c174_10 : CC := .reg [
 O p45 (.mv X0) 0,
 O p46 (.mv X14) 1,
 O p47 (.mv X3) 2,
 O p48 (.call (.c (.fn 204 [])) [X45, X46, X11, X47]) 3,
 O p14 (.mv X48) 4] false
def c174_11 : CC := .reg [
 O p49 (.mv X0) 0,
 O p50 (.mv X12) 1,
 O p51 (.mv X13) 2,
 O p52 (.mv X14) 3,
 O p53 (.mv X3) 4,
 O p54 (.call (.c (.fn 205 [])) [X49, X50, X51, X52, X11, X53]) 5,
 O p13 (.mv X54) 6] false
def c174_12 : CC := .reg [
 O p55 (.load 1 false X11) 0] false
def c174_13 : CC := .reg [
 O p58 (.bin .eql .num X55 (.c (I 0))) 0,
 O p57 (.mv X58) 1] false
def c174_14 : CC := .reg [
 O p59 (.mv X13) 0,
 O p8 (.mv X59) 1,
 O p9 (.mv (.c (I 1))) 2] false
def c174_15 : CC := .reg [
 O p61 (.bin .eql .num X55 (.c (I 12))) 0,
 O p60 (.mv X61) 1] false
def c174_16 : CC := .reg [
 O p62 (.mv X13) 0,
 O p8 (.mv X62) 1,
 O p9 (.mv (.c (I 2))) 2] false
def c174_17 : CC := .reg [
 O p56 (.mv X13) 0,
 O p8 (.mv X56) 1,
 O p9 (.mv (.c (I 0))) 2] false
def F174 : CF := .mk 63 [p0, p1, p2, p3] 6 (.seq c174_0 (.seq c174_1 (.seq c174_2 (.seq c174_3 (.seq c174_4 (.seq c174_5 (.seq (.seq c174_6 (.cond X34 (.seq (.seq c174_7 (.cond X36 (.seq c174_8 (.seq c174_9 c174_10)) .skip)) c174_11) .skip)) (.seq c174_12 (.blk 0 (.seq c174_13 (.cond X57 (.seq c174_14 .ret) (.seq c174_15 (.cond X60 (.seq c174_16 .ret) (.seq c174_17 .ret)))))))))))))) [.t p8, .t p9] 0
/- slices.reverseRangeCmpFunc[daybook/api.Branch] -/
def c175_0 : CC := .reg [
 O p10 (.mv X1) 0,
 O p8 (.mv X10) 1] false
def c175_1 : CC := .reg [
 O p11 (.mv X2) 0,
 O p12 (.bin .sub .num X11 (.c (I 1))) 1,
 O p9 (.mv X12) 2] false
def c175_2 : CC := .reg [
 O p13 (.mv X8) 0,
 O p14 (.mv X9) 1,
 O p15 (.bin .lss .num X13 X14) 2] false
def c175_3 : CC := .reg [
 O p16 (.mv X0) 0,
 O p17 (.mv X8) 1,
 O p18 (.mv X0) 2,
 O p19 (.mv X9) 3,
 O p20 (.mv X0) 4,
 O p21 (.mv X9) 5,
 O p22 (.iaddr 3 X20 X21) 6,
 O p23 (.load 3 true X22) 7,
 O p24 (.mv X0) 8,
 O p25 (.mv X8) 9,
 O p26 (.iaddr 3 X24 X25) 10,
 O p27 (.load 3 true X26) 11,
 O p28 (.iaddr 3 X16 X17) 12,
 ON (.store 3 X28 X23) 13,
 O p29 (.iaddr 3 X18 X19) 14,
 ON (.store 3 X29 X27) 15] true
def c175_4 : CC := .reg [
 O p30 (.mv X8) 0,
 O p31 (.bin .add .num X30 (.c (I 1))) 1,
 O p8 (.mv X31) 2] false
def c175_5 : CC := .reg [
 O p32 (.mv X9) 0,
 O p33 (.bin .sub .num X32 (.c (I 1))) 1,
 O p9 (.mv X33) 2] false
def c175_6 : CC := .loop (.seq (.seq c175_2 (.cond X15 .skip (.exit 0))) (.blk 1 (.seq c175_3 (.seq c175_4 c175_5))))
def F175 : CF := .mk 34 [p0, p1, p2, p3] 6 (.seq c175_0 (.seq c175_1 (.blk 0 c175_6))) [] 0
/- slices.partialInsertionSortCmpFunc[daybook/api.Branch] -/
def c176_0 : CC := .reg [
 O p8 (.mv (.c (.bool false))) 0] false
def c176_1 : CC := .reg [
 O p13 (.mv X1) 0,
 O p14 (.bin .add .num X13 (.c (I 1))) 1,
 O p9 (.mv X14) 2] false
def c176_2 : CC := .reg [
 O p10 (.mv (.c (I 0))) 0] false
def c176_3 : CC := .reg [
 O p15 (.mv X10) 0,
 O p16 (.bin .lss .num X15 (.c (I 5))) 1] false
def c176_4 : CC := .reg [
 O p19 (.mv X9) 0,
 O p20 (.mv X2) 1,
 O p21 (.bin .lss .num X19 X20) 2,
 O p22 (.mv X21) 3,
 OG p23 p22 true (.mv X3) 4,
 OG p24 p22 true (.mv X0) 5,
 OG p25 p22 true (.mv X9) 6,
 OG p26 p22 true (.iaddr 3 X24 X25) 7,
 OG p27 p22 true (.load 3 true X26) 8,
 OG p28 p22 true (.mv X0) 9,
 OG p29 p22 true (.mv X9) 10,
 OG p30 p22 true (.bin .sub .num X29 (.c (I 1))) 11,
 OG p31 p22 true (.iaddr 3 X28 X30) 12,
 OG p32 p22 true (.load 3 true X31) 13,
 OG p33 p22 true (.call X23 [X27, X32]) 14,
 OG p34 p22 true (.bin .lss .num X33 (.c (I 0))) 15,
 OG p35 p22 true (.un .not X34) 16,
 O p36 (.pick X22 X35 (.c (.bool false))) 17] true
def c176_5 : CC := .reg [
 O p37 (.mv X9) 0,
 O p38 (.bin .add .num X37 (.c (I 1))) 1,
 O p9 (.mv X38) 2] false
def c176_6 : CC := .loop (.seq (.seq c176_4 (.cond X36 .skip (.exit 2))) (.blk 3 c176_5))
def c176_7 : CC := .reg [
 O p39 (.mv X9) 0,
 O p40 (.mv X2) 1,
 O p41 (.bin .eql .num X39 X40) 2] false
def c176_8 : CC := .reg [
 O p8 (.mv (.c (.bool true))) 0] false
def c176_9 : CC := .reg [
 O p42 (.mv X2) 0,
 O p43 (.mv X1) 1,
 O p44 (.bin .sub .num X42 X43) 2,
 O p45 (.bin .lss .num X44 (.c (I 50))) 3] false
def c176_10 : CC := .reg [
 O p8 (.mv (.c (.bool false))) 0] false
def c176_11 : CC := .reg [
 O p46 (.mv X0) 0,
 O p47 (.mv X9) 1,
 O p48 (.mv X0) 2,
 O p49 (.mv X9) 3,
 O p50 (.bin .sub .num X49 (.c (I 1))) 4,
 O p51 (.mv X0) 5,
 O p52 (.mv X9) 6,
 O p53 (.bin .sub .num X52 (.c (I 1))) 7,
 O p54 (.iaddr 3 X51 X53) 8,
 O p55 (.load 3 true X54) 9,
 O p56 (.mv X0) 10,
 O p57 (.mv X9) 11,
 O p58 (.iaddr 3 X56 X57) 12,
 O p59 (.load 3 true X58) 13,
 O p60 (.iaddr 3 X46 X47) 14,
 ON (.store 3 X60 X55) 15,
 O p61 (.iaddr 3 X48 X50) 16,
 ON (.store 3 X61 X59) 17] true
def c176_12 : CC := .reg [
 O p62 (.mv X9) 0,
 O p63 (.mv X1) 1,
 O p64 (.bin .sub .num X62 X63) 2,
 O p65 (.bin .geq .num X64 (.c (I 2))) 3] false
def c176_13 : CC := .reg [
 O p66 (.mv X9) 0,
 O p67 (.bin .sub .num X66 (.c (I 1))) 1,
 O p11 (.mv X67) 2] false
def c176_14 : CC := .reg [
 O p68 (.mv X11) 0,
 O p69 (.bin .geq .num X68 (.c (I 1))) 1] false
def c176_15 : CC := .reg [
 O p72 (.mv X3) 0,
 O p73 (.mv X0) 1,
 O p74 (.mv X11) 2,
 O p75 (.iaddr 3 X73 X74) 3,
 O p76 (.load 3 true X75) 4,
 O p77 (.mv X0) 5,
 O p78 (.mv X11) 6,
 O p79 (.bin .sub .num X78 (.c (I 1))) 7,
 O p80 (.iaddr 3 X77 X79) 8,
 O p81 (.load 3 true X80) 9,
 O p82 (.call X72 [X76, X81]) 10,
 O p83 (.bin .lss .num X82 (.c (I 0))) 11,
 O p84 (.un .not X83) 12] true
def c176_16 : CC := .reg [
 O p85 (.mv X0) 0,
 O p86 (.mv X11) 1,
 O p87 (.mv X0) 2,
 O p88 (.mv X11) 3,
 O p89 (.bin .sub .num X88 (.c (I 1))) 4,
 O p90 (.mv X0) 5,
 O p91 (.mv X11) 6,
 O p92 (.bin .sub .num X91 (.c (I 1))) 7,
 O p93 (.iaddr 3 X90 X92) 8,
 O p94 (.load 3 true X93) 9,
 O p95 (.mv X0) 10,
 O p96 (.mv X11) 11,
 O p97 (.iaddr 3 X95 X96) 12,
 O p98 (.load 3 true X97) 13,
 O p99 (.iaddr 3 X85 X86) 14,
 ON (.store 3 X99 X94) 15,
 O p100 (.iaddr 3 X87 X89) 16,
 ON (.store 3 X100 X98) 17] true
def c176_17 : CC := .reg [
 O p70 (.mv X11) 0,
 O p71 (.bin .sub .num X70 (.c (I 1))) 1,
 O p11 (.mv X71) 2] false
def c176_18 : CC := .loop (.seq (.seq c176_14 (.cond X69 .skip (.exit 4))) (.seq (.blk 5 (.seq (.seq c176_15 (.cond X84 (.exit 4) .skip)) c176_16)) c176_17))
def c176_19 : CC := .reg [
 O p101 (.mv X2) 0,
 O p102 (.mv X9) 1,
 O p103 (.bin .sub .num X101 X102) 2,
 O p104 (.bin .geq .num X103 (.c (I 2))) 3] false
def c176_20 : CC := .reg [
 O p105 (.mv X9) 0,
 O p106 (.bin .add .num X105 (.c (I 1))) 1,
 O p12 (.mv X106) 2] false
def c176_21 : CC := .reg [
 O p107 (.mv X12) 0,
 O p108 (.mv X2) 1,
 O p109 (.bin .lss .num X107 X108) 2] false
def c176_22 : CC := .reg [
 O p112 (.mv X3) 0,
 O p113 (.mv X0) 1,
 O p114 (.mv X12) 2,
 O p115 (.iaddr 3 X113 X114) 3,
 O p116 (.load 3 true X115) 4,
 O p117 (.mv X0) 5,
 O p118 (.mv X12) 6,
 O p119 (.bin .sub .num X118 (.c (I 1))) 7,
 O p120 (.iaddr 3 X117 X119) 8,
 O p121 (.load 3 true X120) 9,
 O p122 (.call X112 [X116, X121]) 10,
 O p123 (.bin .lss .num X122 (.c (I 0))) 11,
 O p124 (.un .not X123) 12] true
def c176_23 : CC := .reg [
 O p125 (.mv X0) 0,
 O p126 (.mv X12) 1,
 O p127 (.mv X0) 2,
 O p128 (.mv X12) 3,
 O p129 (.bin .sub .num X128 (.c (I 1))) 4,
 O p130 (.mv X0) 5,
 O p131 (.mv X12) 6,
 O p132 (.bin .sub .num X131 (.c (I 1))) 7,
 O p133 (.iaddr 3 X130 X132) 8,
 O p134 (.load 3 true X133) 9,
 O p135 (.mv X0) 10,
 O p136 (.mv X12) 11,
 O p137 (.iaddr 3 X135 X136) 12,
 O p138 (.load 3 true X137) 13,
 O p139 (.iaddr 3 X125 X126) 14,
 ON (.store 3 X139 X134) 15,
 O p140 (.iaddr 3 X127 X129) 16,
 ON (.store 3 X140 X138) 17] true
def c176_24 : CC := .reg [
 O p110 (.mv X12) 0,
 O p111 (.bin .add .num X110 (.c (I 1))) 1,
 O p12 (.mv X111) 2] false
def c176_25 : CC := .loop (.seq (.seq c176_21 (.cond X109 .skip (.exit 6))) (.seq (.blk 7 (.seq (.seq c176_22 (.cond X124 (.exit 6) .skip)) c176_23)) c176_24))
def c176_26 : CC := .reg [
 O p17 (.mv X10) 0,
 O p18 (.bin .add .num X17 (.c (I 1))) 1,
 O p10 (.mv X18) 2] false
def c176_27 : CC := .loop (.seq (.seq c176_3 (.cond X16 .skip (.exit 0))) (.seq (.blk 1 (.seq (.blk 2 c176_6) (.seq (.seq c176_7 (.cond X41 (.seq c176_8 .ret) .skip)) (.seq (.seq c176_9 (.cond X45 (.seq c176_10 .ret) .skip)) (.seq c176_11 (.seq (.seq c176_12 (.cond X65 (.seq c176_13 (.blk 4 c176_18)) .skip)) (.seq c176_19 (.cond X104 (.seq c176_20 (.blk 6 c176_25)) .skip)))))))) c176_26))
def c176_28 : CC := .reg [
 O p8 (.mv (.c (.bool false))) 0] false
def F176 : CF := .mk 141 [p0, p1, p2, p3] 8 (.seq c176_0 (.seq c176_1 (.seq (.seq c176_2 (.blk 0 c176_27)) (.seq c176_28 .ret)))) [.t p8] 0
/- slices.partitionEqualCmpFunc[daybook/api.Branch] -/
def c177_0 : CC := .reg [
 O p10 (.mv (.c (I 0))) 0] false
def c177_1 : CC := .reg [
 O p13 (.mv X0) 0,
 O p14 (.mv X1) 1,
 O p15 (.mv X0) 2,
 O p16 (.mv X3) 3,
 O p17 (.mv X0) 4,
 O p18 (.mv X3) 5,
 O p19 (.iaddr 3 X17 X18) 6,
 O p20 (.load 3 true X19) 7,
 O p21 (.mv X0) 8,
 O p22 (.mv X1) 9,
 O p23 (.iaddr 3 X21 X22) 10,
 O p24 (.load 3 true X23) 11,
 O p25 (.iaddr 3 X13 X14) 12,
 ON (.store 3 X25 X20) 13,
 O p26 (.iaddr 3 X15 X16) 14,
 ON (.store 3 X26 X24) 15] true
def c177_2 : CC := .reg [
 O p27 (.mv X1) 0,
 O p28 (.bin .add .num X27 (.c (I 1))) 1,
 O p29 (.mv X2) 2,
 O p30 (.bin .sub .num X29 (.c (I 1))) 3,
 O p11 (.mv X28) 4,
 O p12 (.mv X30) 5] false
def c177_3 : CC := .reg [
 O p31 (.mv X11) 0,
 O p32 (.mv X12) 1,
 O p33 (.bin .leq .num X31 X32) 2,
 O p34 (.mv X33) 3,
 OG p35 p34 true (.mv X4) 4,
 OG p36 p34 true (.mv X0) 5,
 OG p37 p34 true (.mv X1) 6,
 OG p38 p34 true (.iaddr 3 X36 X37) 7,
 OG p39 p34 true (.load 3 true X38) 8,
 OG p40 p34 true (.mv X0) 9,
 OG p41 p34 true (.mv X11) 10,
 OG p42 p34 true (.iaddr 3 X40 X41) 11,
 OG p43 p34 true (.load 3 true X42) 12,
 OG p44 p34 true (.call X35 [X39, X43]) 13,
 OG p45 p34 true (.bin .lss .num X44 (.c (I 0))) 14,
 OG p46 p34 true (.un .not X45) 15,
 O p47 (.pick X34 X46 (.c (.bool false))) 16] true
def c177_4 : CC := .reg [
 O p48 (.mv X11) 0,
 O p49 (.bin .add .num X48 (.c (I 1))) 1,
 O p11 (.mv X49) 2] false
def c177_5 : CC := .loop (.seq (.seq c177_3 (.cond X47 .skip (.exit 2))) (.blk 3 c177_4))
def c177_6 : CC := .reg [
 O p50 (.mv X11) 0,
 O p51 (.mv X12) 1,
 O p52 (.bin .leq .num X50 X51) 2,
 O p53 (.mv X52) 3,
 OG p54 p53 true (.mv X4) 4,
 OG p55 p53 true (.mv X0) 5,
 OG p56 p53 true (.mv X1) 6,
 OG p57 p53 true (.iaddr 3 X55 X56) 7,
 OG p58 p53 true (.load 3 true X57) 8,
 OG p59 p53 true (.mv X0) 9,
 OG p60 p53 true (.mv X12) 10,
 OG p61 p53 true (.iaddr 3 X59 X60) 11,
 OG p62 p53 true (.load 3 true X61) 12,
 OG p63 p53 true (.call X54 [X58, X62]) 13,
 OG p64 p53 true (.bin .lss .num X63 (.c (I 0))) 14,
 O p65 (.pick X53 X64 (.c (.bool false))) 15] true
def c177_7 : CC := .reg [
 O p66 (.mv X12) 0,
 O p67 (.bin .sub .num X66 (.c (I 1))) 1,
 O p12 (.mv X67) 2] false
def c177_8 : CC := .loop (.seq (.seq c177_6 (.cond X65 .skip (.exit 4))) (.blk 5 c177_7))
def c177_9 : CC := .reg [
 O p68 (.mv X11) 0,
 O p69 (.mv X12) 1,
 O p70 (.bin .gtr .num X68 X69) 2] false
def c177_10 : CC := .reg [
 O p71 (.mv X0) 0,
 O p72 (.mv X11) 1,
 O p73 (.mv X0) 2,
 O p74 (.mv X12) 3,
 O p75 (.mv X0) 4,
 O p76 (.mv X12) 5,
 O p77 (.iaddr 3 X75 X76) 6,
 O p78 (.load 3 true X77) 7,
 O p79 (.mv X0) 8,
 O p80 (.mv X11) 9,
 O p81 (.iaddr 3 X79 X80) 10,
 O p82 (.load 3 true X81) 11,
 O p83 (.iaddr 3 X71 X72) 12,
 ON (.store 3 X83 X78) 13,
 O p84 (.iaddr 3 X73 X74) 14,
 ON (.store 3 X84 X82) 15] true
def c177_11 : CC := .reg [
 O p85 (.mv X11) 0,
 O p86 (.bin .add .num X85 (.c (I 1))) 1,
 O p11 (.mv X86) 2] false
def c177_12 : CC := .reg [
 O p87 (.mv X12) 0,
 O p88 (.bin .sub .num X87 (.c (I 1))) 1,
 O p12 (.mv X88) 2] false
def c177_13 : CC := .loop (.blk 1 (.seq (.blk 2 c177_5) (.seq (.blk 4 c177_8) (.seq (.seq c177_9 (.cond X70 (.exit 0) .skip)) (.seq c177_10 (.seq c177_11 c177_12))))))
def c177_14 : CC := .reg [
 O p89 (.mv X11) 0,
 O p10 (.mv X89) 1] false
def F177 : CF := .mk 90 [p0, p1, p2, p3, p4] 7 (.seq c177_0 (.seq c177_1 (.seq c177_2 (.seq (.blk 0 c177_13) (.seq c177_14 .ret))))) [.t p10] 0
/- slices.partitionCmpFunc[daybook/api.Branch] -/
def c178_0 : CC := .reg [
 O p10 (.mv (.c (I 0))) 0,
 O p11 (.mv (.c (.bool false))) 1] false
def c178_1 : CC := .reg [
 O p14 (.mv X0) 0,
 O p15 (.mv X1) 1,
 O p16 (.mv X0) 2,
 O p17 (.mv X3) 3,
 O p18 (.mv X0) 4,
 O p19 (.mv X3) 5,
 O p20 (.iaddr 3 X18 X19) 6,
 O p21 (.load 3 true X20) 7,
 O p22 (.mv X0) 8,
 O p23 (.mv X1) 9,
 O p24 (.iaddr 3 X22 X23) 10,
 O p25 (.load 3 true X24) 11,
 O p26 (.iaddr 3 X14 X15) 12,
 ON (.store 3 X26 X21) 13,
 O p27 (.iaddr 3 X16 X17) 14,
 ON (.store 3 X27 X25) 15] true
def c178_2 : CC := .reg [
 O p28 (.mv X1) 0,
 O p29 (.bin .add .num X28 (.c (I 1))) 1,
 O p30 (.mv X2) 2,
 O p31 (.bin .sub .num X30 (.c (I 1))) 3,
 O p12 (.mv X29) 4,
 O p13 (.mv X31) 5] false
def c178_3 : CC := .reg [
 O p32 (.mv X12) 0,
 O p33 (.mv X13) 1,
 O p34 (.bin .leq .num X32 X33) 2,
 O p35 (.mv X34) 3,
 OG p36 p35 true (.mv X4) 4,
 OG p37 p35 true (.mv X0) 5,
 OG p38 p35 true (.mv X12) 6,
 OG p39 p35 true (.iaddr 3 X37 X38) 7,
 OG p40 p35 true (.load 3 true X39) 8,
 OG p41 p35 true (.mv X0) 9,
 OG p42 p35 true (.mv X1) 10,
 OG p43 p35 true (.iaddr 3 X41 X42) 11,
 OG p44 p35 true (.load 3 true X43) 12,
 OG p45 p35 true (.call X36 [X40, X44]) 13,
 OG p46 p35 true (.bin .lss .num X45 (.c (I 0))) 14,
 O p47 (.pick X35 X46 (.c (.bool false))) 15] true
def c178_4 : CC := .reg [
 O p48 (.mv X12) 0,
 O p49 (.bin .add .num X48 (.c (I 1))) 1,
 O p12 (.mv X49) 2] false
def c178_5 : CC := .loop (.seq (.seq c178_3 (.cond X47 .skip (.exit 0))) (.blk 1 c178_4))
def c178_6 : CC := .reg [
 O p50 (.mv X12) 0,
 O p51 (.mv X13) 1,
 O p52 (.bin .leq .num X50 X51) 2,
 O p53 (.mv X52) 3,
 OG p54 p53 true (.mv X4) 4,
 OG p55 p53 true (.mv X0) 5,
 OG p56 p53 true (.mv X13) 6,
 OG p57 p53 true (.iaddr 3 X55 X56) 7,
 OG p58 p53 true (.load 3 true X57) 8,
 OG p59 p53 true (.mv X0) 9,
 OG p60 p53 true (.mv X1) 10,
 OG p61 p53 true (.iaddr 3 X59 X60) 11,
 OG p62 p53 true (.load 3 true X61) 12,
 OG p63 p53 true (.call X54 [X58, X62]) 13,
 OG p64 p53 true (.bin .lss .num X63 (.c (I 0))) 14,
 OG p65 p53 true (.un .not X64) 15,
 O p66 (.pick X53 X65 (.c (.bool false))) 16] true
def c178_7 : CC := .reg [
 O p67 (.mv X13) 0,
 O p68 (.bin .sub .num X67 (.c (I 1))) 1,
 O p13 (.mv X68) 2] false
def c178_8 : CC := .loop (.seq (.seq c178_6 (.cond X66 .skip (.exit 2))) (.blk 3 c178_7))
def c178_9 : CC := .reg [
 O p69 (.mv X12) 0,
 O p70 (.mv X13) 1,
 O p71 (.bin .gtr .num X69 X70) 2] false
def c178_10 : CC := .reg [
 O p72 (.mv X0) 0,
 O p73 (.mv X13) 1,
 O p74 (.mv X0) 2,
 O p75 (.mv X1) 3,
 O p76 (.mv X0) 4,
 O p77 (.mv X1) 5,
 O p78 (.iaddr 3 X76 X77) 6,
 O p79 (.load 3 true X78) 7,
 O p80 (.mv X0) 8,
 O p81 (.mv X13) 9,
 O p82 (.iaddr 3 X80 X81) 10,
 O p83 (.load 3 true X82) 11,
 O p84 (.iaddr 3 X72 X73) 12,
 ON (.store 3 X84 X79) 13,
 O p85 (.iaddr 3 X74 X75) 14,
 ON (.store 3 X85 X83) 15] true
def c178_11 : CC := .reg [
 O p86 (.mv X13) 0,
 O p10 (.mv X86) 1,
 O p11 (.mv (.c (.bool true))) 2] false
def c178_12 : CC := .reg [
 O p87 (.mv X0) 0,
 O p88 (.mv X12) 1,
 O p89 (.mv X0) 2,
 O p90 (.mv X13) 3,
 O p91 (.mv X0) 4,
 O p92 (.mv X13) 5,
 O p93 (.iaddr 3 X91 X92) 6,
 O p94 (.load 3 true X93) 7,
 O p95 (.mv X0) 8,
 O p96 (.mv X12) 9,
 O p97 (.iaddr 3 X95 X96) 10,
 O p98 (.load 3 true X97) 11,
 O p99 (.iaddr 3 X87 X88) 12,
 ON (.store 3 X99 X94) 13,
 O p100 (.iaddr 3 X89 X90) 14,
 ON (.store 3 X100 X98) 15] true
def c178_13 : CC := .reg [
 O p101 (.mv X12) 0,
 O p102 (.bin .add .num X101 (.c (I 1))) 1,
 O p12 (.mv X102) 2] false
def c178_14 : CC := .reg [
 O p103 (.mv X13) 0,
 O p104 (.bin .sub .num X103 (.c (I 1))) 1,
 O p13 (.mv X104) 2] false
def c178_15 : CC := .reg [
 O p105 (.mv X12) 0,
 O p106 (.mv X13) 1,
 O p107 (.bin .leq .num X105 X106) 2,
 O p108 (.mv X107) 3,
 OG p109 p108 true (.mv X4) 4,
 OG p110 p108 true (.mv X0) 5,
 OG p111 p108 true (.mv X12) 6,
 OG p112 p108 true (.iaddr 3 X110 X111) 7,
 OG p113 p108 true (.load 3 true X112) 8,
 OG p114 p108 true (.mv X0) 9,
 OG p115 p108 true (.mv X1) 10,
 OG p116 p108 true (.iaddr 3 X114 X115) 11,
 OG p117 p108 true (.load 3 true X116) 12,
 OG p118 p108 true (.call X109 [X113, X117]) 13,
 OG p119 p108 true (.bin .lss .num X118 (.c (I 0))) 14,
 O p120 (.pick X108 X119 (.c (.bool false))) 15] true
def c178_16 : CC := .reg [
 O p121 (.mv X12) 0,
 O p122 (.bin .add .num X121 (.c (I 1))) 1,
 O p12 (.mv X122) 2] false
def c178_17 : CC := .loop (.seq (.seq c178_15 (.cond X120 .skip (.exit 6))) (.blk 7 c178_16))
def c178_18 : CC := .reg [
 O p123 (.mv X12) 0,
 O p124 (.mv X13) 1,
 O p125 (.bin .leq .num X123 X124) 2,
 O p126 (.mv X125) 3,
 OG p127 p126 true (.mv X4) 4,
 OG p128 p126 true (.mv X0) 5,
 OG p129 p126 true (.mv X13) 6,
 OG p130 p126 true (.iaddr 3 X128 X129) 7,
 OG p131 p126 true (.load 3 true X130) 8,
 OG p132 p126 true (.mv X0) 9,
 OG p133 p126 true (.mv X1) 10,
 OG p134 p126 true (.iaddr 3 X132 X133) 11,
 OG p135 p126 true (.load 3 true X134) 12,
 OG p136 p126 true (.call X127 [X131, X135]) 13,
 OG p137 p126 true (.bin .lss .num X136 (.c (I 0))) 14,
 OG p138 p126 true (.un .not X137) 15,
 O p139 (.pick X126 X138 (.c (.bool false))) 16] true
def c178_19 : CC := .reg [
 O p140 (.mv X13) 0,
 O p141 (.bin .sub .num X140 (.c (I 1))) 1,
 O p13 (.mv X141) 2] false
def c178_20 : CC := .loop (.seq (.seq c178_18 (.cond X139 .skip (.exit 8))) (.blk 9 c178_19))
def c178_21 : CC := .reg [
 O p142 (.mv X12) 0,
 O p143 (.mv X13) 1,
 O p144 (.bin .gtr .num X142 X143) 2] false
def c178_22 : CC := .reg [
 O p145 (.mv X0) 0,
 O p146 (.mv X12) 1,
 O p147 (.mv X0) 2,
 O p148 (.mv X13) 3,
 O p149 (.mv X0) 4,
 O p150 (.mv X13) 5,
 O p151 (.iaddr 3 X149 X150) 6,
 O p152 (.load 3 true X151) 7,
 O p153 (.mv X0) 8,
 O p154 (.mv X12) 9,
 O p155 (.iaddr 3 X153 X154) 10,
 O p156 (.load 3 true X155) 11,
 O p157 (.iaddr 3 X145 X146) 12,
 ON (.store 3 X157 X152) 13,
 O p158 (.iaddr 3 X147 X148) 14,
 ON (.store 3 X158 X156) 15] true
def c178_23 : CC := .reg [
 O p159 (.mv X12) 0,
 O p160 (.bin .add .num X159 (.c (I 1))) 1,
 O p12 (.mv X160) 2] false
def c178_24 : CC := .reg [
 O p161 (.mv X13) 0,
 O p162 (.bin .sub .num X161 (.c (I 1))) 1,
 O p13 (.mv X162) 2] false
def c178_25 : CC := .loop (.blk 5 (.seq (.blk 6 c178_17) (.seq (.blk 8 c178_20) (.seq (.seq c178_21 (.cond X144 (.exit 4) .skip)) (.seq c178_22 (.seq c178_23 c178_24))))))
def c178_26 : CC := .reg [
 O p163 (.mv X0) 0,
 O p164 (.mv X13) 1,
 O p165 (.mv X0) 2,
 O p166 (.mv X1) 3,
 O p167 (.mv X0) 4,
 O p168 (.mv X1) 5,
 O p169 (.iaddr 3 X167 X168) 6,
 O p170 (.load 3 true X169) 7,
 O p171 (.mv X0) 8,
 O p172 (.mv X13) 9,
 O p173 (.iaddr 3 X171 X172) 10,
 O p174 (.load 3 true X173) 11,
 O p175 (.iaddr 3 X163 X164) 12,
 ON (.store 3 X175 X170) 13,
 O p176 (.iaddr 3 X165 X166) 14,
 ON (.store 3 X176 X174) 15] true
def c178_27 : CC := .reg [
 O p177 (.mv X13) 0,
 O p10 (.mv X177) 1,
 O p11 (.mv (.c (.bool false))) 2] false
def F178 : CF := .mk 178 [p0, p1, p2, p3, p4] 8 (.seq c178_0 (.seq c178_1 (.seq c178_2 (.seq (.blk 0 c178_5) (.seq (.blk 2 c178_8) (.seq (.seq c178_9 (.cond X71 (.seq c178_10 (.seq c178_11 .ret)) .skip)) (.seq c178_12 (.seq c178_13 (.seq c178_14 (.seq (.blk 4 c178_25) (.seq c178_26 (.seq c178_27 .ret)))))))))))) [.t p10, .t p11] 0
/- math/bits.Len32 -/
def c179_0 : CC := .reg [
 O p2 (.mv (.c (I 0))) 0] false
def c179_1 : CC := .reg [
 O p3 (.mv X0) 0,
 O p4 (.bin .geq .num X3 (.c (.int .u32 65536))) 1] false
def c179_2 : CC := .reg [
 O p5 (.mv X0) 0,
 O p6 (.bin .shr .num X5 (.c (.int .u64 16))) 1,
 O p0 (.mv X6) 2] false
def c179_3 : CC := .reg [
 O p2 (.mv (.c (I 16))) 0] false
def c179_4 : CC := .reg [
 O p7 (.mv X0) 0,
 O p8 (.bin .geq .num X7 (.c (.int .u32 256))) 1] false
def c179_5 : CC := .reg [
 O p9 (.mv X0) 0,
 O p10 (.bin .shr .num X9 (.c (.int .u64 8))) 1,
 O p0 (.mv X10) 2] false
def c179_6 : CC := .reg [
 O p11 (.mv X2) 0,
 O p12 (.bin .add .num X11 (.c (I 8))) 1,
 O p2 (.mv X12) 2] false
def c179_7 : CC := .reg [
 O p13 (.mv X2) 0,
 O p14 (.mv X0) 1,
 O p15 (.toint .u8 X14) 2,
 O p16 (.index (.c (.str [0, 1, 2, 2, 3, 3, 3, 3, 4, 4, 4, 4, 4, 4, 4, 4, 5, 5, 5, 5, 5, 5, 5, 5, 5, 5, 5, 5, 5, 5, 5, 5, 6, 6, 6, 6, 6, 6, 6, 6, 6, 6, 6, 6, 6, 6, 6, 6, 6, 6, 6, 6, 6, 6, 6, 6, 6, 6, 6, 6, 6, 6, 6, 6, 7, 7, 7, 7, 7, 7, 7, 7, 7, 7, 7, 7, 7, 7, 7, 7, 7, 7, 7, 7, 7, 7, 7, 7, 7, 7, 7, 7, 7, 7, 7, 7, 7, 7, 7, 7, 7, 7, 7, 7, 7, 7, 7, 7, 7, 7, 7, 7, 7, 7, 7, 7, 7, 7, 7, 7, 7, 7, 7, 7, 7, 7, 7, 7, 8, 8, 8, 8, 8, 8, 8, 8, 8, 8, 8, 8, 8, 8, 8, 8, 8, 8, 8, 8, 8, 8, 8, 8, 8, 8, 8, 8, 8, 8, 8, 8, 8, 8, 8, 8, 8, 8, 8, 8, 8, 8, 8, 8, 8, 8, 8, 8, 8, 8, 8, 8, 8, 8, 8, 8, 8, 8, 8, 8, 8, 8, 8, 8, 8, 8, 8, 8, 8, 8, 8, 8, 8, 8, 8, 8, 8, 8, 8, 8, 8, 8, 8, 8, 8, 8, 8, 8, 8, 8, 8, 8, 8, 8, 8, 8, 8, 8, 8, 8, 8, 8, 8, 8, 8, 8, 8, 8, 8, 8, 8, 8, 8, 8, 8, 8, 8, 8, 8, 8, 8, 8, 8, 8, 8, 8, 8, 8])) X15) 3,
 O p17 (.toint .i64 X16) 4,
 O p18 (.bin .add .num X13 X17) 5,
 O p2 (.mv X18) 6] false
def F179 : CF := .mk 19 [p0] 5 (.seq c179_0 (.seq (.seq c179_1 (.cond X4 (.seq c179_2 c179_3) .skip)) (.seq (.seq c179_4 (.cond X8 (.seq c179_5 c179_6) .skip)) (.seq c179_7 .ret)))) [.t p2] 3
/- math/bits.Len64 -/
def c180_0 : CC := .reg [
 O p2 (.mv (.c (I 0))) 0] false
def c180_1 : CC := .reg [
 O p3 (.mv X0) 0,
 O p4 (.bin .geq .num X3 (.c (.int .u64 4294967296))) 1] false
def c180_2 : CC := .reg [
 O p5 (.mv X0) 0,
 O p6 (.bin .shr .num X5 (.c (.int .u64 32))) 1,
 O p0 (.mv X6) 2] false
def c180_3 : CC := .reg [
 O p2 (.mv (.c (I 32))) 0] false
def c180_4 : CC := .reg [
 O p7 (.mv X0) 0,
 O p8 (.bin .geq .num X7 (.c (.int .u64 65536))) 1] false
def c180_5 : CC := .reg [
 O p9 (.mv X0) 0,
 O p10 (.bin .shr .num X9 (.c (.int .u64 16))) 1,
 O p0 (.mv X10) 2] false
def c180_6 : CC := .reg [
 O p11 (.mv X2) 0,
 O p12 (.bin .add .num X11 (.c (I 16))) 1,
 O p2 (.mv X12) 2] false
def c180_7 : CC := .reg [
 O p13 (.mv X0) 0,
 O p14 (.bin .geq .num X13 (.c (.int .u64 256))) 1] false
def c180_8 : CC := .reg [
 O p15 (.mv X0) 0,
 O p16 (.bin .shr .num X15 (.c (.int .u64 8))) 1,
 O p0 (.mv X16) 2] false
def c180_9 : CC := .reg [
 O p17 (.mv X2) 0,
 O p18 (.bin .add .num X17 (.c (I 8))) 1,
 O p2 (.mv X18) 2] false
def c180_10 : CC := .reg [
 O p19 (.mv X2) 0,
 O p20 (.mv X0) 1,
 O p21 (.toint .u8 X20) 2,
 O p22 (.index (.c (.str [0, 1, 2, 2, 3, 3, 3, 3, 4, 4, 4, 4, 4, 4, 4, 4, 5, 5, 5, 5, 5, 5, 5, 5, 5, 5, 5, 5, 5, 5, 5, 5, 6, 6, 6, 6, 6, 6, 6, 6, 6, 6, 6, 6, 6, 6, 6, 6, 6, 6, 6, 6, 6, 6, 6, 6, 6, 6, 6, 6, 6, 6, 6, 6, 7, 7, 7, 7, 7, 7, 7, 7, 7, 7, 7, 7, 7, 7, 7, 7, 7, 7, 7, 7, 7, 7, 7, 7, 7, 7, 7, 7, 7, 7, 7, 7, 7, 7, 7, 7, 7, 7, 7, 7, 7, 7, 7, 7, 7, 7, 7, 7, 7, 7, 7, 7, 7, 7, 7, 7, 7, 7, 7, 7, 7, 7, 7, 7, 8, 8, 8, 8, 8, 8, 8, 8, 8, 8, 8, 8, 8, 8, 8, 8, 8, 8, 8, 8, 8, 8, 8, 8, 8, 8, 8, 8, 8, 8, 8, 8, 8, 8, 8, 8, 8, 8, 8, 8, 8, 8, 8, 8, 8, 8, 8, 8, 8, 8, 8, 8, 8, 8, 8, 8, 8, 8, 8, 8, 8, 8, 8, 8, 8, 8, 8, 8, 8, 8, 8, 8, 8, 8, 8, 8, 8, 8, 8, 8, 8, 8, 8, 8, 8, 8, 8, 8, 8, 8, 8, 8, 8, 8, 8, 8, 8, 8, 8, 8, 8, 8, 8, 8, 8, 8, 8, 8, 8, 8, 8, 8, 8, 8, 8, 8, 8, 8, 8, 8, 8, 8, 8, 8, 8, 8, 8, 8])) X21) 3,
 O p23 (.toint .i64 X22) 4,
 O p24 (.bin .add .num X19 X23) 5,
 O p2 (.mv X24) 6] false
def F180 : CF := .mk 25 [p0] 5 (.seq c180_0 (.seq (.seq c180_1 (.cond X4 (.seq c180_2 c180_3) .skip)) (.seq (.seq c180_4 (.cond X8 (.seq c180_5 c180_6) .skip)) (.seq (.seq c180_7 (.cond X14 (.seq c180_8 c180_9) .skip)) (.seq c180_10 .ret))))) [.t p2] 3
/- cmp.isNaN[int] -/
def c182_0 : CC := .reg [
 O p2 (.mv (.c (.bool false))) 0] false
def c182_1 : CC := .reg [
 O p3 (.mv X0) 0,
 O p4 (.mv X0) 1,
 O p5 (.bin .neq .num X3 X4) 2,
 O p2 (.mv X5) 3] false
def F182 : CF := .mk 6 [p0] 3 (.seq c182_0 (.seq c182_1 .ret)) [.t p2] 1
/- daybook/value.pairs$1 -/
def c187_0 : CC := .reg [
 O p5 (.load 1 false X1) 0,
 O p6 (.bin .neq .num X5 (.c (.str []))) 1] false
def c187_1 : CC := .reg [
 O p10 (.load 1 false X1) 0,
 O p11 (.call (.c (.fn 188 [])) [X10]) 1,
 O p9 (.mv X11) 2,
 O p12 (.ext 0 X9) 3,
 O p13 (.ext 1 X9) 4,
 O p3 (.mv X12) 5,
 O p4 (.mv X13) 6] false
def c187_2 : CC := .reg [
 O p14 (.mv X0) 0,
 O p15 (.mv X3) 1,
 O p16 (.mv X4) 2,
 O p17 (.call X14 [X15, X16]) 3,
 O p18 (.un .not X17) 4,
 O p19 (.mv X18) 5,
 OG p20 p19 false (.mv X4) 6,
 OG p21 p19 false (.un .not X20) 7,
 O p22 (.pick X19 (.c (.bool true)) X21) 8] false
def c187_3 : CC := .reg [
 O p7 (.load 1 false X1) 0,
 O p8 (.slices X7 (some (.c (I 2))) none) 1,
 ON (.store 1 X1 X8) 2] false
def c187_4 : CC := .loop (.seq (.seq c187_0 (.cond X6 .skip (.exit 0))) (.seq (.blk 1 (.seq c187_1 (.seq c187_2 (.cond X22 .ret .skip)))) c187_3))
def F187 : CF := .mk 23 [p0, p1] 5 (.blk 0 c187_4) [] 0
/- daybook/value.pair -/
def c188_0 : CC := .reg [
 O p2 (.mv (.c (.int .u8 0))) 0,
 O p3 (.mv (.c (.bool false))) 1] false
def c188_1 : CC := .reg [
 O p6 (.mv X0) 0,
 O p7 (.len 0 X6) 1,
 O p8 (.bin .lss .num X7 (.c (I 2))) 2] false
def c188_2 : CC := .reg [
 O p2 (.mv (.c (.int .u8 0))) 0,
 O p3 (.mv (.c (.bool false))) 1] false
def c188_3 : CC := .reg [
 O p9 (.mv X0) 0,
 O p10 (.index X9 (.c (I 0))) 1,
 O p12 (.mv X0) 3,
 O p13 (.index X12 (.c (I 1))) 4,
 O p11 (.call (.c (.fn 103 [])) [(.c (.str [48, 49, 50, 51, 52, 53, 54, 55, 56, 57, 97, 98, 99, 100, 101, 102])), X10]) 2,
 O p14 (.call (.c (.fn 103 [])) [(.c (.str [48, 49, 50, 51, 52, 53, 54, 55, 56, 57, 97, 98, 99, 100, 101, 102])), X13]) 5,
 O p4 (.mv X11) 6,
 O p5 (.mv X14) 7] true
def c188_4 : CC := .reg [
 O p15 (.mv X4) 0,
 O p16 (.bin .shl .num X15 (.c (.int .u64 4))) 1,
 O p17 (.mv X5) 2,
 O p18 (.bin .or .num X16 X17) 3,
 O p19 (.toint .u8 X18) 4,
 O p20 (.mv X4) 5,
 O p21 (.bin .geq .num X20 (.c (I 0))) 6,
 O p22 (.mv X21) 7,
 OG p23 p22 true (.mv X5) 8,
 OG p24 p22 true (.bin .geq .num X23 (.c (I 0))) 9,
 O p25 (.pick X22 X24 (.c (.bool false))) 10,
 O p2 (.mv X19) 11,
 O p3 (.mv X25) 12] false
def F188 : CF := .mk 26 [p0] 5 (.seq c188_0 (.seq (.seq c188_1 (.cond X8 (.seq c188_2 .ret) .skip)) (.seq c188_3 (.seq c188_4 .ret)))) [.t p2, .t p3] 3
/- internal/stringslite.CutSuffix -/
def c189_0 : CC := .reg [
 O p4 (.mv (.c (.str []))) 0,
 O p5 (.mv (.c (.bool false))) 1] false
def c189_1 : CC := .reg [
 O p6 (.mv X0) 0,
 O p7 (.mv X1) 1,
 O p8 (.call (.c (.fn 210 [])) [X6, X7]) 2,
 O p9 (.un .not X8) 3] false
def c189_2 : CC := .reg [
 O p10 (.mv X0) 0,
 O p4 (.mv X10) 1,
 O p5 (.mv (.c (.bool false))) 2] false
def c189_3 : CC := .reg [
 O p11 (.mv X0) 0,
 O p12 (.mv X0) 1,
 O p13 (.len 0 X12) 2,
 O p14 (.mv X1) 3,
 O p15 (.len 0 X14) 4,
 O p16 (.bin .sub .num X13 X15) 5,
 O p17 (.slices X11 none (some X16)) 6,
 O p4 (.mv X17) 7,
 O p5 (.mv (.c (.bool true))) 8] false
def F189 : CF := .mk 18 [p0, p1] 5 (.seq c189_0 (.seq (.seq c189_1 (.cond X9 (.seq c189_2 .ret) .skip)) (.seq c189_3 .ret))) [.t p4, .t p5] 3
/- daybook/value.plain -/
def c190_0 : CC := .reg [
 O p2 (.mv (.c (.bool false))) 0] false
def c190_1 : CC := .reg [
 O p3 (.mv X0) 0,
 O p4 (.bin .geq .num X3 (.c (.int .u8 32))) 1,
 O p5 (.mv X4) 2,
 OG p6 p5 true (.mv X0) 3,
 OG p7 p5 true (.bin .leq .num X6 (.c (.int .u8 126))) 4,
 O p8 (.pick X5 X7 (.c (.bool false))) 5,
 O p9 (.mv X8) 6,
 OG p10 p9 true (.mv X0) 7,
 OG p11 p9 true (.bin .neq .num X10 (.c (.int .u8 34))) 8,
 O p12 (.pick X9 X11 (.c (.bool false))) 9,
 O p13 (.mv X12) 10,
 OG p14 p13 true (.mv X0) 11,
 OG p15 p13 true (.bin .neq .num X14 (.c (.int .u8 92))) 12,
 O p16 (.pick X13 X15 (.c (.bool false))) 13,
 O p2 (.mv X16) 14] false
def F190 : CF := .mk 17 [p0] 5 (.seq c190_0 (.seq c190_1 .ret)) [.t p2] 3
/- strconv.FormatBool -/
def c195_0 : CC := .reg [
 O p2 (.mv (.c (.str []))) 0] false
def c195_1 : CC := .reg [
 O p3 (.mv X0) 0,
 O p4 (.call (.c (.fn 211 [])) [X3]) 1,
 O p2 (.mv X4) 2] false
def F195 : CF := .mk 5 [p0] 3 (.seq c195_0 (.seq c195_1 .ret)) [.t p2] 3
/- daybook/value.hex -/
def c196_0 : CC := .reg [
 O p2 (.mv (.c (.str []))) 0] false
def c196_1 : CC := .reg [
 O p3 (.mv X0) 0,
 O p4 (.bin .shr .num X3 (.c (.int .u64 4))) 1,
 O p5 (.index (.c (.str [48, 49, 50, 51, 52, 53, 54, 55, 56, 57, 97, 98, 99, 100, 101, 102])) X4) 2,
 O p6 (.mv X0) 3,
 O p7 (.bin .and .num X6 (.c (.int .u8 15))) 4,
 O p8 (.index (.c (.str [48, 49, 50, 51, 52, 53, 54, 55, 56, 57, 97, 98, 99, 100, 101, 102])) X7) 5,
 O p9 (.bslice 5 1 [(.int .u8 0)] 2 [(0, X5), (1, X8)]) 6,
 O p10 (.b2s X9) 7,
 O p2 (.mv X10) 8] true
def F196 : CF := .mk 11 [p0] 4 (.seq c196_0 (.seq c196_1 .ret)) [.t p2] 3
/- daybook/datom.may -/
def c197_0 : CC := .reg [
 O p1 (.box 154 X0) 0,
 O p2 (.mv (.c (.bool false))) 1] false
def c197_1 : CC := .reg [
 O p3 (.faddr 0 X1) 0,
 O p4 (.load 1 false X3) 1,
 O p5 (.bin .geq .num X4 (.c (I 0))) 2,
 O p6 (.mv X5) 3,
 OG p7 p6 true (.faddr 0 X1) 4,
 OG p8 p6 true (.load 1 false X7) 5,
 OG p9 p6 true (.bin .lss .num X8 (.c (I 9007199254740992))) 6,
 O p10 (.pick X6 X9 (.c (.bool false))) 7,
 O p11 (.mv X10) 8,
 OG p12 p11 true (.faddr 1 X1) 9,
 OG p13 p11 true (.load 1 false X12) 10,
 OG p14 p11 true (.bin .geq .num X13 (.c (I 0))) 11,
 O p15 (.pick X11 X14 (.c (.bool false))) 12,
 O p16 (.mv X15) 13,
 OG p17 p16 true (.faddr 1 X1) 14,
 OG p18 p16 true (.load 1 false X17) 15,
 OG p19 p16 true (.bin .lss .num X18 (.c (I 9007199254740992))) 16,
 O p20 (.pick X16 X19 (.c (.bool false))) 17,
 O p21 (.mv X20) 18,
 OG p22 p21 true (.faddr 2 X1) 19,
 OG p23 p21 true (.load 3 true X22) 20,
 OG p24 p21 true (.call (.c (.fn 97 [])) [X23]) 21,
 OG p25 p21 true (.bin .eql .num X24 (.c (I 0))) 22,
 O p26 (.pick X21 X25 (.c (.bool false))) 23,
 O p27 (.mv X26) 24,
 OG p28 p27 true (.faddr 5 X1) 25,
 OG p29 p27 true (.load 1 false X28) 26,
 OG p30 p27 true (.bin .geq .num X29 (.c (I 1))) 27,
 O p31 (.pick X27 X30 (.c (.bool false))) 28,
 O p32 (.mv X31) 29,
 OG p33 p32 true (.faddr 5 X1) 30,
 OG p34 p32 true (.load 1 false X33) 31,
 OG p35 p32 true (.bin .leq .num X34 (.c (I 1099511627776))) 32,
 O p36 (.pick X32 X35 (.c (.bool false))) 33,
 O p37 (.mv X36) 34,
 OG p38 p37 true (.faddr 7 X1) 35,
 OG p39 p37 true (.load 1 false X38) 36,
 OG p40 p37 true (.faddr 8 X1) 37,
 OG p41 p37 true (.load 1 false X40) 38,
 OG p42 p37 true (.bin .lss .num X39 X41) 39,
 O p43 (.pick X37 X42 (.c (.bool false))) 40,
 O p2 (.mv X43) 41] false
def F197 : CF := .mk 44 [p0] 6 (.seq c197_0 (.seq c197_1 .ret)) [.t p2] 3
/- daybook/span.set -/
def c198_0 : CC := .reg [
 O p2 (.mv (.c (.bool false))) 0] false
def c198_1 : CC := .reg [
 O p5 (.mv X0) 0,
 O p6 (.len 1 X5) 1,
 O p7 (.mv (.c (I 0))) 2] false
def c198_2 : CC := .reg [
 O p8 (.bin .lss .num X7 X6) 0] false
def c198_3 : CC := .reg [
 O p9 (.mv X7) 0,
 O p10 (.iaddr 2 X5 X7) 1,
 O p11 (.load 2 true X10) 2,
 O p4 (.alloc 166 [I 0, I 0]) 3,
 O p3 (.mv X9) 4,
 ON (.store 2 X4 X11) 5] false
def c198_4 : CC := .reg [
 O p12 (.faddr 0 X4) 0,
 O p13 (.load 1 false X12) 1,
 O p14 (.faddr 1 X4) 2,
 O p15 (.load 1 false X14) 3,
 O p16 (.bin .geq .num X13 X15) 4,
 O p17 (.mv X16) 5,
 OG p18 p17 false (.mv X3) 6,
 OG p19 p17 false (.bin .gtr .num X18 (.c (I 0))) 7,
 OG p20 p17 false (.mv X19) 8,
 OG p21 p20 true (.faddr 0 X4) 9,
 OG p22 p20 true (.load 1 false X21) 10,
 OG p23 p20 true (.mv X0) 11,
 OG p24 p20 true (.mv X3) 12,
 OG p25 p20 true (.bin .sub .num X24 (.c (I 1))) 13,
 OG p26 p20 true (.iaddr 2 X23 X25) 14,
 OG p27 p20 true (.faddr 1 X26) 15,
 OG p28 p20 true (.load 1 false X27) 16,
 OG p29 p20 true (.bin .leq .num X22 X28) 17,
 OG p30 p17 false (.pick X20 X29 (.c (.bool false))) 18,
 O p31 (.pick X17 (.c (.bool true)) X30) 19] true
def c198_5 : CC := .reg [
 O p2 (.mv (.c (.bool false))) 0] false
def c198_6 : CC := .reg [
 O p32 (.bin .add .num X7 (.c (I 1))) 0,
 O p7 (.mv X32) 1] false
def c198_7 : CC := .loop (.seq c198_2 (.seq (.cond X8 .skip (.exit 0)) (.seq (.blk 1 (.seq c198_3 (.seq c198_4 (.cond X31 (.seq c198_5 .ret) .skip)))) c198_6)))
def c198_8 : CC := .reg [
 O p2 (.mv (.c (.bool true))) 0] false
def F198 : CF := .mk 33 [p0] 6 (.seq c198_0 (.seq (.seq c198_1 (.blk 0 c198_7)) (.seq c198_8 .ret))) [.t p2] 3
/- cmp.isNaN[int64] -/
def c199_0 : CC := .reg [
 O p2 (.mv (.c (.bool false))) 0] false
def c199_1 : CC := .reg [
 O p3 (.mv X0) 0,
 O p4 (.mv X0) 1,
 O p5 (.bin .neq .num X3 X4) 2,
 O p2 (.mv X5) 3] false
def F199 : CF := .mk 6 [p0] 3 (.seq c199_0 (.seq c199_1 .ret)) [.t p2] 3
/- slices.Contains[[]int64,int64] -/
def c200_0 : CC := .reg [
 O p4 (.mv (.c (.bool false))) 0] false
def c200_1 : CC := .reg [
 O p5 (.mv X0) 0,
 O p6 (.mv X1) 1,
 O p7 (.call (.c (.fn 212 [])) [X5, X6]) 2,
 O p8 (.bin .geq .num X7 (.c (I 0))) 3,
 O p4 (.mv X8) 4] false
def F200 : CF := .mk 9 [p0, p1] 4 (.seq c200_0 (.seq c200_1 .ret)) [.t p4] 3
/- slices.siftDownCmpFunc[daybook/api.Branch] -/
def c201_0 : CC := .reg [
 O p12 (.mv X1) 0,
 O p10 (.mv X12) 1] false
def c201_1 : CC := .reg [
 O p13 (.mv X10) 0,
 O p14 (.bin .mul .num (.c (I 2)) X13) 1,
 O p15 (.bin .add .num X14 (.c (I 1))) 2,
 O p11 (.mv X15) 3] false
def c201_2 : CC := .reg [
 O p16 (.mv X11) 0,
 O p17 (.mv X2) 1,
 O p18 (.bin .geq .num X16 X17) 2] false
def c201_3 : CC := .reg [
 O p19 (.mv X11) 0,
 O p20 (.bin .add .num X19 (.c (I 1))) 1,
 O p21 (.mv X2) 2,
 O p22 (.bin .lss .num X20 X21) 3,
 O p23 (.mv X22) 4,
 OG p24 p23 true (.mv X4) 5,
 OG p25 p23 true (.mv X0) 6,
 OG p26 p23 true (.mv X3) 7,
 OG p27 p23 true (.mv X11) 8,
 OG p28 p23 true (.bin .add .num X26 X27) 9,
 OG p29 p23 true (.iaddr 3 X25 X28) 10,
 OG p30 p23 true (.load 3 true X29) 11,
 OG p31 p23 true (.mv X0) 12,
 OG p32 p23 true (.mv X3) 13,
 OG p33 p23 true (.mv X11) 14,
 OG p34 p23 true (.bin .add .num X32 X33) 15,
 OG p35 p23 true (.bin .add .num X34 (.c (I 1))) 16,
 OG p36 p23 true (.iaddr 3 X31 X35) 17,
 OG p37 p23 true (.load 3 true X36) 18,
 OG p38 p23 true (.call X24 [X30, X37]) 19,
 OG p39 p23 true (.bin .lss .num X38 (.c (I 0))) 20,
 O p40 (.pick X23 X39 (.c (.bool false))) 21] true
def c201_4 : CC := .reg [
 O p41 (.mv X11) 0,
 O p42 (.bin .add .num X41 (.c (I 1))) 1,
 O p11 (.mv X42) 2] false
def c201_5 : CC := .reg [
 O p43 (.mv X4) 0,
 O p44 (.mv X0) 1,
 O p45 (.mv X3) 2,
 O p46 (.mv X10) 3,
 O p47 (.bin .add .num X45 X46) 4,
 O p48 (.iaddr 3 X44 X47) 5,
 O p49 (.load 3 true X48) 6,
 O p50 (.mv X0) 7,
 O p51 (.mv X3) 8,
 O p52 (.mv X11) 9,
 O p53 (.bin .add .num X51 X52) 10,
 O p54 (.iaddr 3 X50 X53) 11,
 O p55 (.load 3 true X54) 12,
 O p56 (.call X43 [X49, X55]) 13,
 O p57 (.bin .lss .num X56 (.c (I 0))) 14,
 O p58 (.un .not X57) 15] true
def c201_6 : CC := .reg [
 O p59 (.mv X0) 0,
 O p60 (.mv X3) 1,
 O p61 (.mv X10) 2,
 O p62 (.bin .add .num X60 X61) 3,
 O p63 (.mv X0) 4,
 O p64 (.mv X3) 5,
 O p65 (.mv X11) 6,
 O p66 (.bin .add .num X64 X65) 7,
 O p67 (.mv X0) 8,
 O p68 (.mv X3) 9,
 O p69 (.mv X11) 10,
 O p70 (.bin .add .num X68 X69) 11,
 O p71 (.iaddr 3 X67 X70) 12,
 O p72 (.load 3 true X71) 13,
 O p73 (.mv X0) 14,
 O p74 (.mv X3) 15,
 O p75 (.mv X10) 16,
 O p76 (.bin .add .num X74 X75) 17,
 O p77 (.iaddr 3 X73 X76) 18,
 O p78 (.load 3 true X77) 19,
 O p79 (.iaddr 3 X59 X62) 20,
 ON (.store 3 X79 X72) 21,
 O p80 (.iaddr 3 X63 X66) 22,
 ON (.store 3 X80 X78) 23] true
def c201_7 : CC := .reg [
 O p81 (.mv X11) 0,
 O p10 (.mv X81) 1] false
def c201_8 : CC := .loop (.blk 1 (.seq c201_1 (.seq (.seq c201_2 (.cond X18 (.exit 0) .skip)) (.seq (.seq c201_3 (.cond X40 c201_4 .skip)) (.seq (.seq c201_5 (.cond X58 .ret .skip)) (.seq c201_6 c201_7))))))
def F201 : CF := .mk 82 [p0, p1, p2, p3, p4] 7 (.seq c201_0 (.blk 0 c201_8)) [] 0
/- slices.nextPowerOfTwo -/
def c202_0 : CC := .reg [
 O p2 (.mv (.c (.int .u64 0))) 0] false
def c202_1 : CC := .reg [
 O p3 (.mv X0) 0,
 O p4 (.toint .u64 X3) 1,
 O p5 (.call (.c (.fn 138 [])) [X4]) 2,
 O p6 (.bin .shl .num (.c (.int .u64 1)) X5) 3,
 O p2 (.mv X6) 4] false
def F202 : CF := .mk 7 [p0] 3 (.seq c202_0 (.seq c202_1 .ret)) [.t p2] 3
/- (*slices.xorshift).Next -/
def c203_0 : CC := .reg [
 O p2 (.mv (.c (.int .u64 0))) 0] false
def c203_1 : CC := .reg [
 O p3 (.mv X0) 0,
 O p4 (.nilck X3) 1,
 O p5 (.load 1 false X4) 2,
 O p6 (.mv X0) 3,
 O p7 (.nilck X6) 4,
 O p8 (.load 1 false X7) 5,
 O p9 (.bin .shl .num X8 (.c (.int .u64 13))) 6,
 O p10 (.bin .xor .num X5 X9) 7,
 O p11 (.nilck X3) 8,
 ON (.store 1 X11 X10) 9] true
def c203_2 : CC := .reg [
 O p12 (.mv X0) 0,
 O p13 (.nilck X12) 1,
 O p14 (.load 1 false X13) 2,
 O p15 (.mv X0) 3,
 O p16 (.nilck X15) 4,
 O p17 (.load 1 false X16) 5,
 O p18 (.bin .shr .num X17 (.c (.int .u64 7))) 6,
 O p19 (.bin .xor .num X14 X18) 7,
 O p20 (.nilck X12) 8,
 ON (.store 1 X20 X19) 9] true
def c203_3 : CC := .reg [
 O p21 (.mv X0) 0,
 O p22 (.nilck X21) 1,
 O p23 (.load 1 false X22) 2,
 O p24 (.mv X0) 3,
 O p25 (.nilck X24) 4,
 O p26 (.load 1 false X25) 5,
 O p27 (.bin .shl .num X26 (.c (.int .u64 17))) 6,
 O p28 (.bin .xor .num X23 X27) 7,
 O p29 (.nilck X21) 8,
 ON (.store 1 X29 X28) 9] true
def c203_4 : CC := .reg [
 O p30 (.mv X0) 0,
 O p31 (.nilck X30) 1,
 O p32 (.load 1 false X31) 2,
 O p2 (.mv X32) 3] false
def F203 : CF := .mk 33 [p0] 6 (.seq c203_0 (.seq c203_1 (.seq c203_2 (.seq c203_3 (.seq c203_4 .ret))))) [.t p2] 3
/- slices.medianAdjacentCmpFunc[daybook/api.Branch] -/
def c204_0 : CC := .reg [
 O p8 (.mv (.c (I 0))) 0] false
def c204_1 : CC := .reg [
 O p9 (.mv X0) 0,
 O p10 (.mv X1) 1,
 O p11 (.bin .sub .num X10 (.c (I 1))) 2,
 O p12 (.mv X1) 3,
 O p13 (.mv X1) 4,
 O p14 (.bin .add .num X13 (.c (I 1))) 5,
 O p15 (.mv X2) 6,
 O p16 (.mv X3) 7,
 O p17 (.call (.c (.fn 205 [])) [X9, X11, X12, X14, X15, X16]) 8,
 O p8 (.mv X17) 9] false
def F204 : CF := .mk 18 [p0, p1, p2, p3] 5 (.seq c204_0 (.seq c204_1 .ret)) [.t p8] 0
/- slices.medianCmpFunc[daybook/api.Branch] -/
def c205_0 : CC := .reg [
 O p12 (.mv (.c (I 0))) 0] false
def c205_1 : CC := .reg [
 O p14 (.mv X0) 0,
 O p15 (.mv X1) 1,
 O p16 (.mv X2) 2,
 O p17 (.mv X4) 3,
 O p18 (.mv X5) 4,
 O p19 (.call (.c (.fn 213 [])) [X14, X15, X16, X17, X18]) 5,
 O p13 (.mv X19) 6,
 O p20 (.ext 0 X13) 7,
 O p21 (.ext 1 X13) 8,
 O p1 (.mv X20) 9,
 O p2 (.mv X21) 10] false
def c205_2 : CC := .reg [
 O p23 (.mv X0) 0,
 O p24 (.mv X2) 1,
 O p25 (.mv X3) 2,
 O p26 (.mv X4) 3,
 O p27 (.mv X5) 4,
 O p28 (.call (.c (.fn 213 [])) [X23, X24, X25, X26, X27]) 5,
 O p22 (.mv X28) 6,
 O p29 (.ext 0 X22) 7,
 O p30 (.ext 1 X22) 8,
 O p2 (.mv X29) 9,
 O p3 (.mv X30) 10] false
def c205_3 : CC := .reg [
 O p32 (.mv X0) 0,
 O p33 (.mv X1) 1,
 O p34 (.mv X2) 2,
 O p35 (.mv X4) 3,
 O p36 (.mv X5) 4,
 O p37 (.call (.c (.fn 213 [])) [X32, X33, X34, X35, X36]) 5,
 O p31 (.mv X37) 6,
 O p38 (.ext 0 X31) 7,
 O p39 (.ext 1 X31) 8,
 O p1 (.mv X38) 9,
 O p2 (.mv X39) 10] false
def c205_4 : CC := .reg [
 O p40 (.mv X2) 0,
 O p12 (.mv X40) 1] false
def F205 : CF := .mk 41 [p0, p1, p2, p3, p4, p5] 6 (.seq c205_0 (.seq c205_1 (.seq c205_2 (.seq c205_3 (.seq c205_4 .ret))))) [.t p12] 0
/- internal/stringslite.HasSuffix -/
def c210_0 : CC := .reg [
 O p4 (.mv (.c (.bool false))) 0] false
def c210_1 : CC := .reg [
 O p5 (.mv X0) 0,
 O p6 (.len 0 X5) 1,
 O p7 (.mv X1) 2,
 O p8 (.len 0 X7) 3,
 O p9 (.bin .geq .num X6 X8) 4,
 O p10 (.mv X9) 5,
 OG p11 p10 true (.mv X0) 6,
 OG p12 p10 true (.mv X0) 7,
 OG p13 p10 true (.len 0 X12) 8,
 OG p14 p10 true (.mv X1) 9,
 OG p15 p10 true (.len 0 X14) 10,
 OG p16 p10 true (.bin .sub .num X13 X15) 11,
 OG p17 p10 true (.slices X11 (some X16) none) 12,
 OG p18 p10 true (.mv X1) 13,
 OG p19 p10 true (.bin .eql .num X17 X18) 14,
 O p20 (.pick X10 X19 (.c (.bool false))) 15,
 O p4 (.mv X20) 16] false
def F210 : CF := .mk 21 [p0, p1] 5 (.seq c210_0 (.seq c210_1 .ret)) [.t p4] 3
/- internal/strconv.FormatBool -/
def c211_0 : CC := .reg [
 O p2 (.mv (.c (.str []))) 0] false
def c211_1 : CC := .reg [
 O p3 (.mv X0) 0] false
def c211_2 : CC := .reg [
 O p2 (.mv (.c (.str [116, 114, 117, 101]))) 0] false
def c211_3 : CC := .reg [
 O p2 (.mv (.c (.str [102, 97, 108, 115, 101]))) 0] false
def F211 : CF := .mk 4 [p0] 3 (.seq c211_0 (.seq (.seq c211_1 (.cond X3 (.seq c211_2 .ret) .skip)) (.seq c211_3 .ret))) [.t p2] 3
/- slices.Index[[]int64,int64] -/
def c212_0 : CC := .reg [
 O p4 (.mv (.c (I 0))) 0] false
def c212_1 : CC := .reg [
 O p6 (.mv X0) 0,
 O p7 (.len 1 X6) 1,
 O p8 (.mv (.c (I 0))) 2] false
def c212_2 : CC := .reg [
 O p9 (.bin .lss .num X8 X7) 0] false
def c212_3 : CC := .reg [
 O p10 (.mv X8) 0,
 O p5 (.mv X10) 1] false
def c212_4 : CC := .reg [
 O p11 (.mv X1) 0,
 O p12 (.mv X0) 1,
 O p13 (.mv X5) 2,
 O p14 (.iaddr 1 X12 X13) 3,
 O p15 (.load 1 false X14) 4,
 O p16 (.bin .eql .num X11 X15) 5] false
def c212_5 : CC := .reg [
 O p17 (.mv X5) 0,
 O p4 (.mv X17) 1] false
def c212_6 : CC := .reg [
 O p18 (.bin .add .num X8 (.c (I 1))) 0,
 O p8 (.mv X18) 1] false
def c212_7 : CC := .loop (.seq c212_2 (.seq (.cond X9 .skip (.exit 0)) (.seq (.blk 1 (.seq c212_3 (.seq c212_4 (.cond X16 (.seq c212_5 .ret) .skip)))) c212_6)))
def c212_8 : CC := .reg [
 O p4 (.mv (.c (I (-1)))) 0] false
def F212 : CF := .mk 19 [p0, p1] 5 (.seq c212_0 (.seq (.seq c212_1 (.blk 0 c212_7)) (.seq c212_8 .ret))) [.t p4] 3
/- slices.order2CmpFunc[daybook/api.Branch] -/
def c213_0 : CC := .reg [
 O p10 (.mv (.c (I 0))) 0,
 O p11 (.mv (.c (I 0))) 1] false
def c213_1 : CC := .reg [
 O p12 (.mv X4) 0,
 O p13 (.mv X0) 1,
 O p14 (.mv X2) 2,
 O p15 (.iaddr 3 X13 X14) 3,
 O p16 (.load 3 true X15) 4,
 O p17 (.mv X0) 5,
 O p18 (.mv X1) 6,
 O p19 (.iaddr 3 X17 X18) 7,
 O p20 (.load 3 true X19) 8,
 O p21 (.call X12 [X16, X20]) 9,
 O p22 (.bin .lss .num X21 (.c (I 0))) 10] true
def c213_2 : CC := .reg [
 O p23 (.mv X3) 0,
 O p24 (.nilck X23) 1,
 O p25 (.load 1 false X24) 2,
 O p26 (.bin .add .num X25 (.c (I 1))) 3,
 O p27 (.nilck X23) 4,
 ON (.store 1 X27 X26) 5] false
def c213_3 : CC := .reg [
 O p28 (.mv X2) 0,
 O p29 (.mv X1) 1,
 O p10 (.mv X28) 2,
 O p11 (.mv X29) 3] false
def c213_4 : CC := .reg [
 O p30 (.mv X1) 0,
 O p31 (.mv X2) 1,
 O p10 (.mv X30) 2,
 O p11 (.mv X31) 3] false
def F213 : CF := .mk 32 [p0, p1, p2, p3, p4] 6 (.seq c213_0 (.seq (.seq c213_1 (.cond X22 (.seq c213_2 (.seq c213_3 .ret)) .skip)) (.seq c213_4 .ret))) [.t p10, .t p11] 0
end Go.EV
