/- Compiled functions, by program. -/
import Derived.Test.YtkcabichlinkmaaGreatDoorHM7
namespace Go.EV
/- daybook/shape.head -/
def c120_0 : CC := .reg [
  .mk (some p1) none (.box 44 (.t p0)) [] 0,
  .mk (some p2) none (.alloc 36 [(.int .i64 0), (.int .i64 0), (.int .i64 0), (.str []), (.str []), .nils, (.int .i64 0), (.int .i64 0)]) [] 1] false
def c120_1 : CC := .reg [
  .mk (some p4) none (.faddr 1 (.t p1)) [] 0,
  .mk (some p5) none (.load 1 false (.t p4)) [] 1,
  .mk (some p6) none (.call (.c (.fn 116 [])) [(.t p5)]) [] 2,
  .mk (some p7) none (.call (.c (.fn 158 [])) [(.t p6)]) [] 3,
  .mk (some p8) none (.bslice 36 8 [(.int .i64 0), (.int .i64 0), (.int .i64 0), (.str []), (.str []), .nils, (.int .i64 0), (.int .i64 0)] 1 [(0, (.t p7))]) [] 4,
  .mk (some p3) none (.mv (.t p8)) [] 5] false
def c120_2 : CC := .reg [
  .mk (some p9) none (.faddr 2 (.t p1)) [] 0,
  .mk (some p10) none (.load 1 false (.t p9)) [] 1] false
def c120_3 : CC := .reg [
  .mk (some p11) none (.mv (.t p3)) [] 0,
  .mk (some p12) none (.call (.c (.fn 118 [])) [(.c (.str [98, 97, 99, 107]))]) [] 1,
  .mk (some p13) none (.bslice 36 8 [(.int .i64 0), (.int .i64 0), (.int .i64 0), (.str []), (.str []), .nils, (.int .i64 0), (.int .i64 0)] 1 [(0, (.t p12))]) [] 2,
  .mk (some p14) none (.append 36 8 (.t p11) (.t p13)) [] 3,
  .mk (some p3) none (.mv (.t p14)) [] 4] false
def c120_4 : CC := .reg [
  .mk (some p15) none (.faddr 3 (.t p1)) [] 0,
  .mk (some p16) none (.load 1 false (.t p15)) [] 1,
  .mk (some p17) none (.bin .gtr .num (.t p16) (.c (.int .i64 0))) [] 2] false
def c120_5 : CC := .reg [
  .mk (some p18) none (.mv (.t p3)) [] 0,
  .mk (some p20) none (.faddr 3 (.t p1)) [] 2,
  .mk (some p21) none (.load 1 false (.t p20)) [3] 3,
  .mk (some p19) none (.call (.c (.fn 118 [])) [(.c (.str [108, 105, 109, 105, 116]))]) [] 1,
  .mk (some p22) none (.call (.c (.fn 119 [])) [(.t p21)]) [] 4,
  .mk (some p23) none (.bslice 36 8 [(.int .i64 0), (.int .i64 0), (.int .i64 0), (.str []), (.str []), .nils, (.int .i64 0), (.int .i64 0)] 2 [(0, (.t p19)), (1, (.t p22))]) [] 5,
  .mk (some p24) none (.append 36 8 (.t p18) (.t p23)) [] 6,
  .mk (some p3) none (.mv (.t p24)) [] 7] true
def c120_6 : CC := .reg [
  .mk (some p25) none (.faddr 4 (.t p1)) [] 0,
  .mk (some p26) none (.load 1 false (.t p25)) [] 1] false
def c120_7 : CC := .reg [
  .mk (some p27) none (.mv (.t p3)) [] 0,
  .mk (some p29) none (.faddr 5 (.t p1)) [] 2,
  .mk (some p30) none (.load 3 true (.t p29)) [3] 3,
  .mk (some p28) none (.call (.c (.fn 118 [])) [(.c (.str [100, 101, 102, 97, 117, 108, 116]))]) [] 1,
  .mk (some p31) none (.call (.c (.fn 158 [])) [(.t p30)]) [] 4,
  .mk (some p32) none (.bslice 36 8 [(.int .i64 0), (.int .i64 0), (.int .i64 0), (.str []), (.str []), .nils, (.int .i64 0), (.int .i64 0)] 2 [(0, (.t p28)), (1, (.t p31))]) [] 5,
  .mk (some p33) none (.append 36 8 (.t p27) (.t p32)) [] 6,
  .mk (some p3) none (.mv (.t p33)) [] 7] true
def c120_8 : CC := .reg [
  .mk (some p34) none (.mv (.t p3)) [] 0,
  .mk (some p35) none (.len 1 (.t p34)) [] 1,
  .mk (some p36) none (.bin .eql .num (.t p35) (.c (.int .i64 1))) [] 2] false
def c120_9 : CC := .reg [
  .mk (some p37) none (.mv (.t p3)) [] 0,
  .mk (some p38) none (.iaddr 8 (.t p37) (.c (.int .i64 0))) [] 1,
  .mk (some p39) none (.load 8 true (.t p38)) [] 2,
  .mk none none (.store 8 (.t p2) (.t p39)) [] 3] false
def c120_10 : CC := .reg [
  .mk (some p40) none (.mv (.t p3)) [] 0,
  .mk (some p41) none (.build [(.int .i64 0), (.int .i64 0), (.int .i64 0), (.str []), (.str []), .nils, (.int .i64 0), (.int .i64 0)] [(0, 1, (.c (.int .i64 3))), (5, 1, (.t p40))]) [] 1,
  .mk none none (.store 8 (.t p2) (.t p41)) [] 2] false
def F120 : CF := .mk 42 [p0] 6 (.seq c120_0 (.seq c120_1 (.seq (.seq c120_2 (.cond (.t p10) c120_3 .skip)) (.seq (.seq c120_4 (.cond (.t p17) c120_5 .skip)) (.seq (.seq c120_6 (.cond (.t p26) c120_7 .skip)) (.seq (.seq c120_8 (.cond (.t p36) (.seq c120_9 .ret) .skip)) (.seq c120_10 .ret))))))) [.cell p2 8 true] 1
/- daybook/daybookref01.Word -/
def c121_0 : CC := .reg [
  .mk (some p2) none (.mv (.c (.bool false))) [] 0] false
def c121_1 : CC := .reg [
  .mk (some p5) none (.mv (.t p0)) [] 0,
  .mk (some p6) none (.len 0 (.t p5)) [] 1,
  .mk (some p7) none (.bin .lss .num (.t p6) (.c (.int .i64 1))) [] 2,
  .mk (some p8) none (.mv (.t p7)) [] 3,
  .mk (some p9) (some (p8, false)) (.mv (.t p0)) [] 4,
  .mk (some p10) (some (p8, false)) (.len 0 (.t p9)) [] 5,
  .mk (some p11) (some (p8, false)) (.bin .gtr .num (.t p10) (.c (.int .i64 64))) [] 6,
  .mk (some p12) none (.pick (.t p8) (.c (.bool true)) (.t p11)) [] 7,
  .mk (some p13) none (.mv (.t p12)) [] 8,
  .mk (some p14) (some (p13, false)) (.mv (.t p0)) [] 9,
  .mk (some p15) (some (p13, false)) (.index (.t p14) (.c (.int .i64 0))) [] 10,
  .mk (some p16) (some (p13, false)) (.call (.c (.fn 159 [])) [(.t p15)]) [] 11,
  .mk (some p17) (some (p13, false)) (.un .not (.t p16)) [] 12,
  .mk (some p18) none (.pick (.t p13) (.c (.bool true)) (.t p17)) [] 13] false
def c121_2 : CC := .reg [
  .mk (some p2) none (.mv (.c (.bool false))) [] 0] false
def c121_3 : CC := .reg [
  .mk (some p3) none (.mv (.c (.int .i64 0))) [] 0] false
def c121_4 : CC := .reg [
  .mk (some p19) none (.mv (.t p3)) [] 0,
  .mk (some p20) none (.mv (.t p0)) [] 1,
  .mk (some p21) none (.len 0 (.t p20)) [] 2,
  .mk (some p22) none (.bin .lss .num (.t p19) (.t p21)) [] 3] false
def c121_5 : CC := .reg [
  .mk (some p25) none (.mv (.t p0)) [] 0,
  .mk (some p26) none (.mv (.t p3)) [] 1,
  .mk (some p27) none (.index (.t p25) (.t p26)) [] 2,
  .mk (some p4) none (.mv (.t p27)) [] 3] false
def c121_6 : CC := .reg [
  .mk (some p28) none (.mv (.t p4)) [] 0,
  .mk (some p29) none (.call (.c (.fn 159 [])) [(.t p28)]) [] 1,
  .mk (some p30) none (.un .not (.t p29)) [] 2,
  .mk (some p31) none (.mv (.t p30)) [] 3,
  .mk (some p32) (some (p31, true)) (.mv (.t p4)) [] 4,
  .mk (some p33) (some (p31, true)) (.call (.c (.fn 160 [])) [(.t p32)]) [] 5,
  .mk (some p34) (some (p31, true)) (.un .not (.t p33)) [] 6,
  .mk (some p35) none (.pick (.t p31) (.t p34) (.c (.bool false))) [] 7,
  .mk (some p36) none (.mv (.t p35)) [] 8,
  .mk (some p37) (some (p36, true)) (.mv (.t p4)) [] 9,
  .mk (some p38) (some (p36, true)) (.bin .neq .num (.t p37) (.c (.int .u8 46))) [] 10,
  .mk (some p39) none (.pick (.t p36) (.t p38) (.c (.bool false))) [] 11,
  .mk (some p40) none (.mv (.t p39)) [] 12,
  .mk (some p41) (some (p40, true)) (.mv (.t p4)) [] 13,
  .mk (some p42) (some (p40, true)) (.bin .neq .num (.t p41) (.c (.int .u8 95))) [] 14,
  .mk (some p43) none (.pick (.t p40) (.t p42) (.c (.bool false))) [] 15,
  .mk (some p44) none (.mv (.t p43)) [] 16,
  .mk (some p45) (some (p44, true)) (.mv (.t p4)) [] 17,
  .mk (some p46) (some (p44, true)) (.bin .neq .num (.t p45) (.c (.int .u8 45))) [] 18,
  .mk (some p47) none (.pick (.t p44) (.t p46) (.c (.bool false))) [] 19,
  .mk (some p48) none (.mv (.t p47)) [] 20,
  .mk (some p49) (some (p48, true)) (.mv (.t p4)) [] 21,
  .mk (some p50) (some (p48, true)) (.bin .neq .num (.t p49) (.c (.int .u8 47))) [] 22,
  .mk (some p51) none (.pick (.t p48) (.t p50) (.c (.bool false))) [] 23] false
def c121_7 : CC := .reg [
  .mk (some p2) none (.mv (.c (.bool false))) [] 0] false
def c121_8 : CC := .reg [
  .mk (some p23) none (.mv (.t p3)) [] 0,
  .mk (some p24) none (.bin .add .num (.t p23) (.c (.int .i64 1))) [] 1,
  .mk (some p3) none (.mv (.t p24)) [] 2] false
def c121_9 : CC := .loop (.seq (.seq c121_4 (.cond (.t p22) .skip (.exit 0))) (.seq (.blk 1 (.seq c121_5 (.seq c121_6 (.cond (.t p51) (.seq c121_7 .ret) .skip)))) c121_8))
def c121_10 : CC := .reg [
  .mk (some p2) none (.mv (.c (.bool true))) [] 0] false
def F121 : CF := .mk 52 [p0] 6 (.seq c121_0 (.seq (.seq c121_1 (.cond (.t p18) (.seq c121_2 .ret) .skip)) (.seq (.seq c121_3 (.blk 0 c121_9)) (.seq c121_10 .ret)))) [.t p2] 1
/- daybook/daybookref01.May -/
def c122_0 : CC := .reg [
  .mk (some p1) none (.box 34 (.t p0)) [] 0,
  .mk (some p2) none (.mv (.c (.bool false))) [] 1] false
def c122_1 : CC := .reg [
  .mk (some p3) none (.faddr 0 (.t p1)) [] 0,
  .mk (some p4) none (.load 1 false (.t p3)) [] 1] false
def c122_2 : CC := .reg [
  .mk (some p6) none (.bin .eql .num (.t p4) (.c (.int .i64 1))) [] 0,
  .mk (some p5) none (.mv (.t p6)) [] 1] false
def c122_3 : CC := .reg [
  .mk (some p7) none (.bin .eql .num (.t p4) (.c (.int .i64 6))) [] 0,
  .mk (some p5) none (.mv (.t p7)) [] 1] false
def c122_4 : CC := .reg [
  .mk (some p8) none (.faddr 2 (.t p1)) [] 0,
  .mk (some p9) none (.load 1 false (.t p8)) [] 1,
  .mk (some p10) none (.bin .eql .num (.t p9) (.c (.str []))) [] 2,
  .mk (some p2) none (.mv (.t p10)) [] 3] false
def c122_5 : CC := .reg [
  .mk (some p12) none (.bin .eql .num (.t p4) (.c (.int .i64 2))) [] 0,
  .mk (some p11) none (.mv (.t p12)) [] 1] false
def c122_6 : CC := .reg [
  .mk (some p13) none (.faddr 2 (.t p1)) [] 0,
  .mk (some p14) none (.load 1 false (.t p13)) [] 1,
  .mk (some p15) none (.bin .eql .num (.t p14) (.c (.str []))) [] 2,
  .mk (some p16) none (.mv (.t p15)) [] 3,
  .mk (some p17) (some (p16, true)) (.faddr 1 (.t p1)) [] 4,
  .mk (some p18) (some (p16, true)) (.load 1 false (.t p17)) [] 5,
  .mk (some p19) (some (p16, true)) (.bin .eql .num (.t p18) (.c (.int .i64 0))) [] 6,
  .mk (some p20) (some (p16, true)) (.mv (.t p19)) [] 7,
  .mk (some p21) (some (p20, false)) (.faddr 1 (.t p1)) [] 8,
  .mk (some p22) (some (p20, false)) (.load 1 false (.t p21)) [] 9,
  .mk (some p23) (some (p20, false)) (.bin .eql .num (.t p22) (.c (.int .i64 1))) [] 10,
  .mk (some p24) (some (p16, true)) (.pick (.t p20) (.c (.bool true)) (.t p23)) [] 11,
  .mk (some p25) none (.pick (.t p16) (.t p24) (.c (.bool false))) [] 12,
  .mk (some p2) none (.mv (.t p25)) [] 13] false
def c122_7 : CC := .reg [
  .mk (some p27) none (.bin .eql .num (.t p4) (.c (.int .i64 3))) [] 0,
  .mk (some p26) none (.mv (.t p27)) [] 1] false
def c122_8 : CC := .reg [
  .mk (some p28) none (.bin .eql .num (.t p4) (.c (.int .i64 4))) [] 0,
  .mk (some p26) none (.mv (.t p28)) [] 1] false
def c122_9 : CC := .reg [
  .mk (some p29) none (.faddr 1 (.t p1)) [] 0,
  .mk (some p30) none (.load 1 false (.t p29)) [] 1,
  .mk (some p31) none (.bin .eql .num (.t p30) (.c (.int .i64 0))) [] 2,
  .mk (some p32) none (.mv (.t p31)) [] 3,
  .mk (some p33) (some (p32, true)) (.faddr 2 (.t p1)) [] 4,
  .mk (some p34) (some (p32, true)) (.load 1 false (.t p33)) [] 5,
  .mk (some p35) (some (p32, true)) (.len 0 (.t p34)) [] 6,
  .mk (some p36) (some (p32, true)) (.bin .leq .num (.t p35) (.c (.int .i64 1000))) [] 7,
  .mk (some p37) none (.pick (.t p32) (.t p36) (.c (.bool false))) [] 8,
  .mk (some p2) none (.mv (.t p37)) [] 9] false
def c122_10 : CC := .reg [
  .mk (some p39) none (.bin .eql .num (.t p4) (.c (.int .i64 5))) [] 0,
  .mk (some p38) none (.mv (.t p39)) [] 1] false
def c122_11 : CC := .reg [
  .mk (some p40) none (.faddr 2 (.t p1)) [] 0,
  .mk (some p41) none (.load 1 false (.t p40)) [] 1,
  .mk (some p42) none (.bin .eql .num (.t p41) (.c (.str []))) [] 2,
  .mk (some p43) none (.mv (.t p42)) [] 3,
  .mk (some p44) (some (p43, true)) (.faddr 1 (.t p1)) [] 4,
  .mk (some p45) (some (p43, true)) (.load 1 false (.t p44)) [] 5,
  .mk (some p46) (some (p43, true)) (.bin .geq .num (.t p45) (.c (.int .i64 0))) [] 6,
  .mk (some p47) none (.pick (.t p43) (.t p46) (.c (.bool false))) [] 7,
  .mk (some p48) none (.mv (.t p47)) [] 8,
  .mk (some p49) (some (p48, true)) (.faddr 1 (.t p1)) [] 9,
  .mk (some p50) (some (p48, true)) (.load 1 false (.t p49)) [] 10,
  .mk (some p51) (some (p48, true)) (.bin .lss .num (.t p50) (.c (.int .i64 9007199254740992))) [] 11,
  .mk (some p52) none (.pick (.t p48) (.t p51) (.c (.bool false))) [] 12,
  .mk (some p2) none (.mv (.t p52)) [] 13] false
def c122_12 : CC := .reg [
  .mk (some p54) none (.bin .eql .num (.t p4) (.c (.int .i64 7))) [] 0,
  .mk (some p53) none (.mv (.t p54)) [] 1] false
def c122_13 : CC := .reg [
  .mk (some p55) none (.faddr 1 (.t p1)) [] 0,
  .mk (some p56) none (.load 1 false (.t p55)) [] 1,
  .mk (some p57) none (.bin .eql .num (.t p56) (.c (.int .i64 0))) [] 2,
  .mk (some p58) none (.mv (.t p57)) [] 3,
  .mk (some p59) (some (p58, true)) (.faddr 2 (.t p1)) [] 4,
  .mk (some p60) (some (p58, true)) (.load 1 false (.t p59)) [] 5,
  .mk (some p61) (some (p58, true)) (.call (.c (.fn 121 [])) [(.t p60)]) [] 6,
  .mk (some p62) none (.pick (.t p58) (.t p61) (.c (.bool false))) [] 7,
  .mk (some p2) none (.mv (.t p62)) [] 8] false
def c122_14 : CC := .reg [
  .mk (some p2) none (.mv (.c (.bool false))) [] 0] false
def F122 : CF := .mk 63 [p0] 6 (.seq c122_0 (.seq (.seq c122_1 (.blk 0 (.seq (.seq c122_2 (.cond (.t p5) .skip c122_3)) (.cond (.t p5) (.seq c122_4 .ret) (.seq c122_5 (.cond (.t p11) (.seq c122_6 .ret) (.seq (.seq c122_7 (.cond (.t p26) .skip c122_8)) (.cond (.t p26) (.seq c122_9 .ret) (.seq c122_10 (.cond (.t p38) (.seq c122_11 .ret) (.seq c122_12 (.cond (.t p53) (.seq c122_13 .ret) .skip)))))))))))) (.seq c122_14 .ret))) [.t p2] 1
/- (*strings.Builder).WriteString -/
def c123_0 : CC := .reg [
  .mk (some p4) none (.mv (.c (.int .i64 0))) [] 0,
  .mk (some p5) none (.mv (.c .nili)) [] 1] false
def c123_1 : CC := .reg [
  .mk (some p6) none (.mv (.t p0)) [] 0,
  .mk (some p7) none (.call (.c (.fn 161 [])) [(.t p6)]) [] 1] false
def c123_2 : CC := .reg [
  .mk (some p8) none (.mv (.t p0)) [] 0,
  .mk (some p9) none (.mv (.t p0)) [] 1,
  .mk (some p10) none (.nilck (.t p9)) [] 2,
  .mk (some p11) none (.faddr 1 (.t p10)) [] 3,
  .mk (some p12) none (.load 1 false (.t p11)) [] 4,
  .mk (some p13) none (.mv (.t p1)) [] 5,
  .mk (some p14) none (.append 5 1 (.t p12) (.t p13)) [] 6,
  .mk (some p15) none (.nilck (.t p8)) [] 7,
  .mk (some p16) none (.faddr 1 (.t p15)) [] 8,
  .mk none none (.store 1 (.t p16) (.t p14)) [] 9] false
def c123_3 : CC := .reg [
  .mk (some p17) none (.mv (.t p1)) [] 0,
  .mk (some p18) none (.len 0 (.t p17)) [] 1,
  .mk (some p4) none (.mv (.t p18)) [] 2,
  .mk (some p5) none (.mv (.c .nili)) [] 3] false
def F123 : CF := .mk 19 [p0, p1] 5 (.seq c123_0 (.seq c123_1 (.seq c123_2 (.seq c123_3 .ret)))) [.t p4, .t p5] 0
/- (*daybook/text.writer).node -/
def c124_0 : CC := .reg [
  .mk (some p3) none (.box 36 (.t p1)) [] 0] false
def c124_1 : CC := .reg [
  .mk (some p7) none (.mv (.t p0)) [] 0,
  .mk (some p8) none (.nilck (.t p7)) [] 1,
  .mk (some p9) none (.faddr 3 (.t p8)) [] 2,
  .mk (some p10) none (.load 1 false (.t p9)) [] 3,
  .mk (some p11) none (.bin .add .num (.t p10) (.c (.int .i64 1))) [] 4,
  .mk (some p12) none (.nilck (.t p7)) [] 5,
  .mk (some p13) none (.faddr 3 (.t p12)) [] 6,
  .mk none none (.store 1 (.t p13) (.t p11)) [] 7] false
def c124_2 : CC := .reg [
  .mk (some p14) none (.mv (.t p0)) [] 0,
  .mk (some p15) none (.nilck (.t p14)) [] 1,
  .mk (some p16) none (.faddr 3 (.t p15)) [] 2,
  .mk (some p17) none (.load 1 false (.t p16)) [] 3,
  .mk (some p18) none (.bin .gtr .num (.t p17) (.c (.int .i64 5000))) [] 4,
  .mk (some p19) none (.mv (.t p18)) [] 5,
  .mk (some p20) (some (p19, false)) (.mv (.t p0)) [] 6,
  .mk (some p21) (some (p19, false)) (.nilck (.t p20)) [] 7,
  .mk (some p22) (some (p19, false)) (.faddr 2 (.t p21)) [] 8,
  .mk (some p23) (some (p19, false)) (.load 1 false (.t p22)) [] 9,
  .mk (some p24) (some (p19, false)) (.bin .gtr .num (.t p23) (.c (.int .i64 50))) [] 10,
  .mk (some p25) none (.pick (.t p19) (.c (.bool true)) (.t p24)) [] 11] false
def c124_3 : CC := .reg [
  .mk (some p26) none (.mv (.t p0)) [] 0,
  .mk (some p27) none (.nilck (.t p26)) [] 1,
  .mk (some p28) none (.faddr 4 (.t p27)) [] 2,
  .mk none none (.store 1 (.t p28) (.c (.bool true))) [] 3] false
def c124_4 : CC := .reg [
  .mk (some p29) none (.mv (.t p0)) [] 0,
  .mk (some p30) none (.nilck (.t p29)) [] 1,
  .mk (some p31) none (.faddr 4 (.t p30)) [] 2,
  .mk (some p32) none (.load 1 false (.t p31)) [] 3] false
def c124_5 : CC := .reg [
  .mk (some p33) none (.faddr 0 (.t p3)) [] 0,
  .mk (some p34) none (.load 1 false (.t p33)) [] 1] false
def c124_6 : CC := .reg [
  .mk (some p39) none (.bin .eql .num (.t p34) (.c (.int .i64 1))) [] 0,
  .mk (some p38) none (.mv (.t p39)) [] 1] false
def c124_7 : CC := .reg [
  .mk (some p41) none (.faddr 1 (.t p3)) [] 0,
  .mk (some p42) none (.load 3 true (.t p41)) [] 1,
  .mk (some p43) none (.call (.c (.fn 162 [])) [(.t p42)]) [] 2,
  .mk (some p40) none (.mv (.t p43)) [] 3,
  .mk (some p44) none (.ext 0 (.t p40)) [] 4,
  .mk (some p45) none (.ext 1 (.t p40)) [] 5,
  .mk (some p4) none (.mv (.t p44)) [] 6,
  .mk (some p5) none (.mv (.t p45)) [] 7] false
def c124_8 : CC := .reg [
  .mk (some p46) none (.mv (.t p0)) [] 0,
  .mk (some p47) none (.mv (.t p5)) [] 1,
  .mk (some p48) none (.bin .neq .num (.t p47) (.c (.int .i64 0))) [] 2,
  .mk (some p49) none (.mv (.t p48)) [] 3,
  .mk (some p50) (some (p49, false)) (.faddr 4 (.t p3)) [] 4,
  .mk (some p51) (some (p49, false)) (.load 1 false (.t p50)) [] 5,
  .mk (some p52) (some (p49, false)) (.bin .neq .num (.t p51) (.c (.str []))) [] 6,
  .mk (some p53) none (.pick (.t p49) (.c (.bool true)) (.t p52)) [] 7,
  .mk (some p54) none (.mv (.t p53)) [] 8,
  .mk (some p55) (some (p54, false)) (.faddr 5 (.t p3)) [] 9,
  .mk (some p56) (some (p54, false)) (.load 1 false (.t p55)) [] 10,
  .mk (some p57) (some (p54, false)) (.len 1 (.t p56)) [] 11,
  .mk (some p58) (some (p54, false)) (.bin .gtr .num (.t p57) (.c (.int .i64 0))) [] 12,
  .mk (some p59) none (.pick (.t p54) (.c (.bool true)) (.t p58)) [] 13,
  .mk (some p60) none (.nilck (.t p46)) [] 14,
  .mk (some p61) none (.faddr 4 (.t p60)) [] 15,
  .mk none none (.store 1 (.t p61) (.t p59)) [] 16] false
def c124_9 : CC := .reg [
  .mk (some p62) none (.mv (.t p0)) [] 0,
  .mk (some p63) none (.nilck (.t p62)) [] 1,
  .mk (some p64) none (.faddr 0 (.t p63)) [] 2,
  .mk (some p65) none (.mv (.t p4)) [] 3,
  .mk (some p66) none (.call (.c (.fn 123 [])) [(.t p64), (.t p65)]) [] 4] false
def c124_10 : CC := .reg [
  .mk (some p68) none (.bin .eql .num (.t p34) (.c (.int .i64 2))) [] 0,
  .mk (some p67) none (.mv (.t p68)) [] 1] false
def c124_11 : CC := .reg [
  .mk (some p69) none (.mv (.t p0)) [] 0,
  .mk (some p70) none (.faddr 4 (.t p3)) [] 1,
  .mk (some p71) none (.load 1 false (.t p70)) [] 2,
  .mk (some p72) none (.call (.c (.fn 68 [])) [(.t p71)]) [] 3,
  .mk (some p73) none (.un .not (.t p72)) [] 4,
  .mk (some p74) none (.mv (.t p73)) [] 5,
  .mk (some p75) (some (p74, false)) (.faddr 1 (.t p3)) [] 6,
  .mk (some p76) (some (p74, false)) (.load 3 true (.t p75)) [] 7,
  .mk (some p77) (some (p74, false)) (.build [(.int .i64 0), (.int .i64 0), (.str [])] []) [] 8,
  .mk (some p78) (some (p74, false)) (.bin .neq (.cells [.i, .i, .s]) (.t p76) (.t p77)) [] 9,
  .mk (some p79) none (.pick (.t p74) (.c (.bool true)) (.t p78)) [] 10,
  .mk (some p80) none (.mv (.t p79)) [] 11,
  .mk (some p81) (some (p80, false)) (.faddr 5 (.t p3)) [] 12,
  .mk (some p82) (some (p80, false)) (.load 1 false (.t p81)) [] 13,
  .mk (some p83) (some (p80, false)) (.len 1 (.t p82)) [] 14,
  .mk (some p84) (some (p80, false)) (.bin .gtr .num (.t p83) (.c (.int .i64 0))) [] 15,
  .mk (some p85) none (.pick (.t p80) (.c (.bool true)) (.t p84)) [] 16,
  .mk (some p86) none (.nilck (.t p69)) [] 17,
  .mk (some p87) none (.faddr 4 (.t p86)) [] 18,
  .mk none none (.store 1 (.t p87) (.t p85)) [] 19] false
def c124_12 : CC := .reg [
  .mk (some p88) none (.mv (.t p0)) [] 0,
  .mk (some p89) none (.nilck (.t p88)) [] 1,
  .mk (some p90) none (.faddr 0 (.t p89)) [] 2,
  .mk (some p91) none (.faddr 4 (.t p3)) [] 3,
  .mk (some p92) none (.load 1 false (.t p91)) [] 4,
  .mk (some p93) none (.call (.c (.fn 123 [])) [(.t p90), (.t p92)]) [] 5] true
def c124_13 : CC := .reg [
  .mk (some p95) none (.bin .eql .num (.t p34) (.c (.int .i64 3))) [] 0,
  .mk (some p94) none (.mv (.t p95)) [] 1] false
def c124_14 : CC := .reg [
  .mk (some p96) none (.bin .eql .num (.t p34) (.c (.int .i64 4))) [] 0,
  .mk (some p94) none (.mv (.t p96)) [] 1] false
def c124_15 : CC := .reg [
  .mk (some p97) none (.bin .eql .num (.t p34) (.c (.int .i64 5))) [] 0,
  .mk (some p94) none (.mv (.t p97)) [] 1] false
def c124_16 : CC := .reg [
  .mk (some p98) none (.mv (.t p0)) [] 0,
  .mk (some p99) none (.faddr 4 (.t p3)) [] 1,
  .mk (some p100) none (.load 1 false (.t p99)) [] 2,
  .mk (some p101) none (.bin .neq .num (.t p100) (.c (.str []))) [] 3,
  .mk (some p102) none (.mv (.t p101)) [] 4,
  .mk (some p103) (some (p102, false)) (.faddr 1 (.t p3)) [] 5,
  .mk (some p104) (some (p102, false)) (.load 3 true (.t p103)) [] 6,
  .mk (some p105) (some (p102, false)) (.build [(.int .i64 0), (.int .i64 0), (.str [])] []) [] 7,
  .mk (some p106) (some (p102, false)) (.bin .neq (.cells [.i, .i, .s]) (.t p104) (.t p105)) [] 8,
  .mk (some p107) none (.pick (.t p102) (.c (.bool true)) (.t p106)) [] 9,
  .mk (some p108) none (.mv (.t p107)) [] 10,
  .mk (some p109) (some (p108, false)) (.mv (.t p0)) [] 11,
  .mk (some p110) (some (p108, false)) (.nilck (.t p109)) [] 12,
  .mk (some p111) (some (p108, false)) (.faddr 2 (.t p110)) [] 13,
  .mk (some p112) (some (p108, false)) (.load 1 false (.t p111)) [] 14,
  .mk (some p113) (some (p108, false)) (.bin .eql .num (.t p112) (.c (.int .i64 50))) [] 15,
  .mk (some p114) none (.pick (.t p108) (.c (.bool true)) (.t p113)) [] 16,
  .mk (some p115) none (.nilck (.t p98)) [] 17,
  .mk (some p116) none (.faddr 4 (.t p115)) [] 18,
  .mk none none (.store 1 (.t p116) (.t p114)) [] 19] false
def c124_17 : CC := .reg [
  .mk (some p117) none (.faddr 0 (.t p3)) [] 0,
  .mk (some p118) none (.load 1 false (.t p117)) [] 1,
  .mk (some p119) none (.bin .sub .num (.t p118) (.c (.int .i64 3))) [] 2,
  .mk (some p6) none (.mv (.t p119)) [] 3] false
def c124_18 : CC := .reg [
  .mk (some p120) none (.mv (.t p0)) [] 0,
  .mk (some p121) none (.nilck (.t p120)) [] 1,
  .mk (some p122) none (.faddr 2 (.t p121)) [] 2,
  .mk (some p123) none (.load 1 false (.t p122)) [] 3,
  .mk (some p124) none (.bin .add .num (.t p123) (.c (.int .i64 1))) [] 4,
  .mk (some p125) none (.nilck (.t p120)) [] 5,
  .mk (some p126) none (.faddr 2 (.t p125)) [] 6,
  .mk none none (.store 1 (.t p126) (.t p124)) [] 7] false
def c124_19 : CC := .reg [
  .mk (some p127) none (.mv (.t p0)) [] 0,
  .mk (some p128) none (.nilck (.t p127)) [] 1,
  .mk (some p129) none (.faddr 0 (.t p128)) [] 2,
  .mk (some p130) none (.mv (.t p6)) [] 3,
  .mk (some p131) none (.index (.c (.str [40, 91, 123])) (.t p130)) [] 4,
  .mk (some p132) none (.call (.c (.fn 151 [])) [(.t p129), (.t p131)]) [] 5] true
def c124_20 : CC := .reg [
  .mk (some p133) none (.mv (.t p0)) [] 0,
  .mk (some p134) none (.faddr 5 (.t p3)) [] 1,
  .mk (some p135) none (.load 1 false (.t p134)) [] 2,
  .mk (some p136) none (.call (.c (.fn 85 [])) [(.t p133), (.t p135), (.c (.str [32]))]) [] 3] false
def c124_21 : CC := .reg [
  .mk (some p137) none (.mv (.t p0)) [] 0,
  .mk (some p138) none (.nilck (.t p137)) [] 1,
  .mk (some p139) none (.faddr 0 (.t p138)) [] 2,
  .mk (some p140) none (.mv (.t p6)) [] 3,
  .mk (some p141) none (.index (.c (.str [41, 93, 125])) (.t p140)) [] 4,
  .mk (some p142) none (.call (.c (.fn 151 [])) [(.t p139), (.t p141)]) [] 5] true
def c124_22 : CC := .reg [
  .mk (some p143) none (.mv (.t p0)) [] 0,
  .mk (some p144) none (.nilck (.t p143)) [] 1,
  .mk (some p145) none (.faddr 2 (.t p144)) [] 2,
  .mk (some p146) none (.load 1 false (.t p145)) [] 3,
  .mk (some p147) none (.bin .sub .num (.t p146) (.c (.int .i64 1))) [] 4,
  .mk (some p148) none (.nilck (.t p143)) [] 5,
  .mk (some p149) none (.faddr 2 (.t p148)) [] 6,
  .mk none none (.store 1 (.t p149) (.t p147)) [] 7] false
def c124_23 : CC := .reg [
  .mk (some p35) none (.mv (.t p0)) [] 0,
  .mk (some p36) none (.nilck (.t p35)) [] 1,
  .mk (some p37) none (.faddr 4 (.t p36)) [] 2,
  .mk none none (.store 1 (.t p37) (.c (.bool true))) [] 3] false
def F124 : CF := .mk 150 [p0, p1] 8 (.seq c124_0 (.seq (.seq c124_1 (.seq c124_2 (.cond (.t p25) c124_3 .skip))) (.seq (.seq c124_4 (.cond (.t p32) .ret .skip)) (.seq c124_5 (.blk 0 (.seq c124_6 (.cond (.t p38) (.seq c124_7 (.seq c124_8 c124_9)) (.seq c124_10 (.cond (.t p67) (.seq c124_11 c124_12) (.seq (.seq c124_13 (.cond (.t p94) .skip (.seq c124_14 (.cond (.t p94) .skip c124_15)))) (.cond (.t p94) (.seq c124_16 (.seq c124_17 (.seq c124_18 (.seq c124_19 (.seq c124_20 (.seq c124_21 c124_22)))))) c124_23))))))))))) [] 0
/- daybook/daybookref04.entity -/
def c125_0 : CC := .reg [
  .mk (some p2) none (.mv (.c (.bool false))) [] 0] false
def c125_1 : CC := .reg [
  .mk (some p3) none (.mv (.t p0)) [] 0,
  .mk (some p4) none (.bin .geq .num (.t p3) (.c (.int .i64 0))) [] 1,
  .mk (some p5) none (.mv (.t p4)) [] 2,
  .mk (some p6) (some (p5, true)) (.mv (.t p0)) [] 3,
  .mk (some p7) (some (p5, true)) (.bin .lss .num (.t p6) (.c (.int .i64 9007199254740992))) [] 4,
  .mk (some p8) none (.pick (.t p5) (.t p7) (.c (.bool false))) [] 5,
  .mk (some p2) none (.mv (.t p8)) [] 6] false
def F125 : CF := .mk 9 [p0] 4 (.seq c125_0 (.seq c125_1 .ret)) [.t p2] 1
/- daybook/daybookref01.Compare -/
def c126_0 : CC := .reg [
  .mk (some p2) none (.box 34 (.t p0)) [] 0,
  .mk (some p3) none (.box 34 (.t p1)) [] 1,
  .mk (some p4) none (.mv (.c (.int .i64 0))) [] 2] false
def c126_1 : CC := .reg [
  .mk (some p6) none (.faddr 0 (.t p2)) [] 0,
  .mk (some p7) none (.load 1 false (.t p6)) [] 1,
  .mk (some p8) none (.faddr 0 (.t p3)) [] 2,
  .mk (some p9) none (.load 1 false (.t p8)) [] 3,
  .mk (some p10) none (.bin .lss .num (.t p7) (.t p9)) [] 4] false
def c126_2 : CC := .reg [
  .mk (some p4) none (.mv (.c (.int .i64 (-1)))) [] 0] false
def c126_3 : CC := .reg [
  .mk (some p11) none (.faddr 0 (.t p2)) [] 0,
  .mk (some p12) none (.load 1 false (.t p11)) [] 1,
  .mk (some p13) none (.faddr 0 (.t p3)) [] 2,
  .mk (some p14) none (.load 1 false (.t p13)) [] 3,
  .mk (some p15) none (.bin .gtr .num (.t p12) (.t p14)) [] 4] false
def c126_4 : CC := .reg [
  .mk (some p4) none (.mv (.c (.int .i64 1))) [] 0] false
def c126_5 : CC := .reg [
  .mk (some p16) none (.faddr 1 (.t p2)) [] 0,
  .mk (some p17) none (.load 1 false (.t p16)) [] 1,
  .mk (some p18) none (.faddr 1 (.t p3)) [] 2,
  .mk (some p19) none (.load 1 false (.t p18)) [] 3,
  .mk (some p20) none (.bin .lss .num (.t p17) (.t p19)) [] 4] false
def c126_6 : CC := .reg [
  .mk (some p4) none (.mv (.c (.int .i64 (-1)))) [] 0] false
def c126_7 : CC := .reg [
  .mk (some p21) none (.faddr 1 (.t p2)) [] 0,
  .mk (some p22) none (.load 1 false (.t p21)) [] 1,
  .mk (some p23) none (.faddr 1 (.t p3)) [] 2,
  .mk (some p24) none (.load 1 false (.t p23)) [] 3,
  .mk (some p25) none (.bin .gtr .num (.t p22) (.t p24)) [] 4] false
def c126_8 : CC := .reg [
  .mk (some p4) none (.mv (.c (.int .i64 1))) [] 0] false
def c126_9 : CC := .reg [
  .mk (some p5) none (.mv (.c (.int .i64 0))) [] 0] false
def c126_10 : CC := .reg [
  .mk (some p26) none (.mv (.t p5)) [] 0,
  .mk (some p27) none (.faddr 2 (.t p2)) [] 1,
  .mk (some p28) none (.load 1 false (.t p27)) [] 2,
  .mk (some p29) none (.len 0 (.t p28)) [] 3,
  .mk (some p30) none (.bin .lss .num (.t p26) (.t p29)) [] 4,
  .mk (some p31) none (.mv (.t p30)) [] 5,
  .mk (some p32) (some (p31, true)) (.mv (.t p5)) [] 6,
  .mk (some p33) (some (p31, true)) (.faddr 2 (.t p3)) [] 7,
  .mk (some p34) (some (p31, true)) (.load 1 false (.t p33)) [] 8,
  .mk (some p35) (some (p31, true)) (.len 0 (.t p34)) [] 9,
  .mk (some p36) (some (p31, true)) (.bin .lss .num (.t p32) (.t p35)) [] 10,
  .mk (some p37) none (.pick (.t p31) (.t p36) (.c (.bool false))) [] 11] false
def c126_11 : CC := .reg [
  .mk (some p40) none (.faddr 2 (.t p2)) [] 0,
  .mk (some p41) none (.load 1 false (.t p40)) [] 1,
  .mk (some p42) none (.mv (.t p5)) [] 2,
  .mk (some p43) none (.index (.t p41) (.t p42)) [] 3,
  .mk (some p44) none (.faddr 2 (.t p3)) [] 4,
  .mk (some p45) none (.load 1 false (.t p44)) [] 5,
  .mk (some p46) none (.mv (.t p5)) [] 6,
  .mk (some p47) none (.index (.t p45) (.t p46)) [] 7,
  .mk (some p48) none (.bin .lss .num (.t p43) (.t p47)) [] 8] true
def c126_12 : CC := .reg [
  .mk (some p4) none (.mv (.c (.int .i64 (-1)))) [] 0] false
def c126_13 : CC := .reg [
  .mk (some p49) none (.faddr 2 (.t p2)) [] 0,
  .mk (some p50) none (.load 1 false (.t p49)) [] 1,
  .mk (some p51) none (.mv (.t p5)) [] 2,
  .mk (some p52) none (.index (.t p50) (.t p51)) [] 3,
  .mk (some p53) none (.faddr 2 (.t p3)) [] 4,
  .mk (some p54) none (.load 1 false (.t p53)) [] 5,
  .mk (some p55) none (.mv (.t p5)) [] 6,
  .mk (some p56) none (.index (.t p54) (.t p55)) [] 7,
  .mk (some p57) none (.bin .gtr .num (.t p52) (.t p56)) [] 8] true
def c126_14 : CC := .reg [
  .mk (some p4) none (.mv (.c (.int .i64 1))) [] 0] false
def c126_15 : CC := .reg [
  .mk (some p38) none (.mv (.t p5)) [] 0,
  .mk (some p39) none (.bin .add .num (.t p38) (.c (.int .i64 1))) [] 1,
  .mk (some p5) none (.mv (.t p39)) [] 2] false
def c126_16 : CC := .loop (.seq (.seq c126_10 (.cond (.t p37) .skip (.exit 0))) (.seq (.blk 1 (.seq (.seq c126_11 (.cond (.t p48) (.seq c126_12 .ret) .skip)) (.seq c126_13 (.cond (.t p57) (.seq c126_14 .ret) .skip)))) c126_15))
def c126_17 : CC := .reg [
  .mk (some p58) none (.faddr 2 (.t p2)) [] 0,
  .mk (some p59) none (.load 1 false (.t p58)) [] 1,
  .mk (some p60) none (.len 0 (.t p59)) [] 2,
  .mk (some p61) none (.faddr 2 (.t p3)) [] 3,
  .mk (some p62) none (.load 1 false (.t p61)) [] 4,
  .mk (some p63) none (.len 0 (.t p62)) [] 5,
  .mk (some p64) none (.bin .lss .num (.t p60) (.t p63)) [] 6] false
def c126_18 : CC := .reg [
  .mk (some p4) none (.mv (.c (.int .i64 (-1)))) [] 0] false
def c126_19 : CC := .reg [
  .mk (some p65) none (.faddr 2 (.t p2)) [] 0,
  .mk (some p66) none (.load 1 false (.t p65)) [] 1,
  .mk (some p67) none (.len 0 (.t p66)) [] 2,
  .mk (some p68) none (.faddr 2 (.t p3)) [] 3,
  .mk (some p69) none (.load 1 false (.t p68)) [] 4,
  .mk (some p70) none (.len 0 (.t p69)) [] 5,
  .mk (some p71) none (.bin .gtr .num (.t p67) (.t p70)) [] 6] false
def c126_20 : CC := .reg [
  .mk (some p4) none (.mv (.c (.int .i64 1))) [] 0] false
def c126_21 : CC := .reg [
  .mk (some p4) none (.mv (.c (.int .i64 0))) [] 0] false
def F126 : CF := .mk 72 [p0, p1] 7 (.seq c126_0 (.seq (.seq c126_1 (.cond (.t p10) (.seq c126_2 .ret) .skip)) (.seq (.seq c126_3 (.cond (.t p15) (.seq c126_4 .ret) .skip)) (.seq (.seq c126_5 (.cond (.t p20) (.seq c126_6 .ret) .skip)) (.seq (.seq c126_7 (.cond (.t p25) (.seq c126_8 .ret) .skip)) (.seq (.seq c126_9 (.blk 0 c126_16)) (.seq (.seq c126_17 (.cond (.t p64) (.seq c126_18 .ret) .skip)) (.seq (.seq c126_19 (.cond (.t p71) (.seq c126_20 .ret) .skip)) (.seq c126_21 .ret))))))))) [.t p4] 1
/- daybook/facts.may -/
def c127_0 : CC := .reg [
  .mk (some p1) none (.box 71 (.t p0)) [] 0,
  .mk (some p2) none (.mv (.c (.bool false))) [] 1] false
def c127_1 : CC := .reg [
  .mk (some p4) none (.faddr 0 (.t p1)) [] 0,
  .mk (some p5) none (.load 1 false (.t p4)) [] 1,
  .mk (some p6) none (.faddr 1 (.t p1)) [] 2,
  .mk (some p7) none (.load 1 false (.t p6)) [] 3,
  .mk (some p8) none (.faddr 2 (.t p1)) [] 4,
  .mk (some p9) none (.load 3 true (.t p8)) [] 5,
  .mk (some p10) none (.build [(.int .i64 0), (.int .i64 0), (.int .i64 0), (.int .i64 0), (.str []), (.int .i64 0), (.bool false), (.int .i64 0), (.int .i64 0)] [(0, 1, (.t p5)), (1, 1, (.t p7)), (2, 3, (.t p9)), (5, 1, (.c (.int .i64 1))), (8, 1, (.c (.int .i64 1)))]) [] 6,
  .mk (some p3) none (.alloc 154 [(.int .i64 0), (.int .i64 0), (.int .i64 0), (.int .i64 0), (.str []), (.int .i64 0), (.bool false), (.int .i64 0), (.int .i64 0)]) [] 7,
  .mk none none (.store 9 (.t p3) (.t p10)) [] 8] false
def c127_2 : CC := .reg [
  .mk (some p11) none (.load 9 true (.t p3)) [] 0,
  .mk (some p12) none (.call (.c (.fn 163 [])) [(.t p11)]) [] 1,
  .mk (some p13) none (.bin .eql .num (.t p12) (.c (.int .i64 0))) [] 2,
  .mk (some p14) none (.mv (.t p13)) [] 3,
  .mk (some p15) (some (p14, true)) (.faddr 5 (.t p1)) [] 4,
  .mk (some p16) (some (p14, true)) (.load 1 false (.t p15)) [] 5,
  .mk (some p17) (some (p14, true)) (.len 1 (.t p16)) [] 6,
  .mk (some p18) (some (p14, true)) (.bin .gtr .num (.t p17) (.c (.int .i64 0))) [] 7,
  .mk (some p19) none (.pick (.t p14) (.t p18) (.c (.bool false))) [] 8,
  .mk (some p20) none (.mv (.t p19)) [] 9,
  .mk (some p21) (some (p20, true)) (.faddr 5 (.t p1)) [] 10,
  .mk (some p22) (some (p20, true)) (.load 1 false (.t p21)) [] 11,
  .mk (some p23) (some (p20, true)) (.call (.c (.fn 164 [])) [(.t p22)]) [] 12,
  .mk (some p24) (some (p20, true)) (.bin .eql .num (.t p23) (.c (.int .i64 0))) [] 13,
  .mk (some p25) none (.pick (.t p20) (.t p24) (.c (.bool false))) [] 14,
  .mk (some p2) none (.mv (.t p25)) [] 15] false
def F127 : CF := .mk 26 [p0] 5 (.seq c127_0 (.seq c127_1 (.seq c127_2 .ret))) [.t p2] 1
/- daybook/facts.compare -/
def c128_0 : CC := .reg [
  .mk (some p2) none (.box 71 (.t p0)) [] 0,
  .mk (some p3) none (.box 71 (.t p1)) [] 1,
  .mk (some p4) none (.mv (.c (.int .i64 0))) [] 2] false
def c128_1 : CC := .reg [
  .mk (some p5) none (.faddr 0 (.t p2)) [] 0,
  .mk (some p6) none (.load 1 false (.t p5)) [] 1,
  .mk (some p7) none (.faddr 0 (.t p3)) [] 2,
  .mk (some p8) none (.load 1 false (.t p7)) [] 3,
  .mk (some p10) none (.faddr 1 (.t p2)) [] 5,
  .mk (some p11) none (.load 1 false (.t p10)) [12] 6,
  .mk (some p12) none (.faddr 1 (.t p3)) [] 7,
  .mk (some p13) none (.load 1 false (.t p12)) [12] 8,
  .mk (some p15) none (.faddr 2 (.t p2)) [] 10,
  .mk (some p16) none (.load 3 true (.t p15)) [12, 13] 11,
  .mk (some p17) none (.faddr 2 (.t p3)) [] 12,
  .mk (some p18) none (.load 3 true (.t p17)) [12, 13] 13,
  .mk (some p9) none (.call (.c (.fn 165 [])) [(.t p6), (.t p8)]) [] 4,
  .mk (some p14) none (.call (.c (.fn 165 [])) [(.t p11), (.t p13)]) [] 9,
  .mk (some p19) none (.call (.c (.fn 166 [])) [(.t p16), (.t p18)]) [] 14,
  .mk (some p20) none (.bslice 3 1 [(.int .i64 0)] 3 [(0, (.t p9)), (1, (.t p14)), (2, (.t p19))]) [] 15,
  .mk (some p21) none (.call (.c (.fn 139 [])) [(.t p20)]) [] 16,
  .mk (some p4) none (.mv (.t p21)) [] 17] true
def F128 : CF := .mk 22 [p0, p1] 5 (.seq c128_0 (.seq c128_1 .ret)) [.t p4] 1
/- slices.DeleteFunc[[]daybook/api.Item,daybook/api.Item] -/
def c129_0 : CC := .reg [
  .mk (some p4) none (.mv (.c .nils)) [] 0] false
def c129_1 : CC := .reg [
  .mk (some p8) none (.mv (.t p0)) [] 0,
  .mk (some p9) none (.mv (.t p1)) [] 1,
  .mk (some p10) none (.call (.c (.fn 117 [])) [(.t p8), (.t p9)]) [] 2,
  .mk (some p5) none (.mv (.t p10)) [] 3] false
def c129_2 : CC := .reg [
  .mk (some p11) none (.mv (.t p5)) [] 0,
  .mk (some p12) none (.bin .eql .num (.t p11) (.c (.int .i64 (-1)))) [] 1] false
def c129_3 : CC := .reg [
  .mk (some p13) none (.mv (.t p0)) [] 0,
  .mk (some p4) none (.mv (.t p13)) [] 1] false
def c129_4 : CC := .reg [
  .mk (some p14) none (.mv (.t p5)) [] 0,
  .mk (some p15) none (.bin .add .num (.t p14) (.c (.int .i64 1))) [] 1,
  .mk (some p6) none (.mv (.t p15)) [] 2] false
def c129_5 : CC := .reg [
  .mk (some p16) none (.mv (.t p6)) [] 0,
  .mk (some p17) none (.mv (.t p0)) [] 1,
  .mk (some p18) none (.len 1 (.t p17)) [] 2,
  .mk (some p19) none (.bin .lss .num (.t p16) (.t p18)) [] 3] false
def c129_6 : CC := .reg [
  .mk (some p22) none (.mv (.t p0)) [] 0,
  .mk (some p23) none (.mv (.t p6)) [] 1,
  .mk (some p24) none (.iaddr 11 (.t p22) (.t p23)) [] 2,
  .mk (some p25) none (.load 11 true (.t p24)) [] 3,
  .mk (some p7) none (.alloc 44 [(.bool false), (.str []), (.bool false), (.int .i64 0), (.bool false), (.int .i64 0), (.int .i64 0), (.str []), (.bool false), .nils, (.int .i64 0)]) [] 4,
  .mk none none (.store 11 (.t p7) (.t p25)) [] 5] false
def c129_7 : CC := .reg [
  .mk (some p26) none (.mv (.t p1)) [] 0,
  .mk (some p27) none (.load 11 true (.t p7)) [] 1,
  .mk (some p28) none (.call (.t p26) [(.t p27)]) [] 2,
  .mk (some p29) none (.un .not (.t p28)) [] 3] false
def c129_8 : CC := .reg [
  .mk (some p30) none (.mv (.t p0)) [] 0,
  .mk (some p31) none (.mv (.t p5)) [] 1,
  .mk (some p32) none (.load 11 true (.t p7)) [] 2,
  .mk (some p33) none (.iaddr 11 (.t p30) (.t p31)) [] 3,
  .mk none none (.store 11 (.t p33) (.t p32)) [] 4] false
def c129_9 : CC := .reg [
  .mk (some p34) none (.mv (.t p5)) [] 0,
  .mk (some p35) none (.bin .add .num (.t p34) (.c (.int .i64 1))) [] 1,
  .mk (some p5) none (.mv (.t p35)) [] 2] false
def c129_10 : CC := .reg [
  .mk (some p20) none (.mv (.t p6)) [] 0,
  .mk (some p21) none (.bin .add .num (.t p20) (.c (.int .i64 1))) [] 1,
  .mk (some p6) none (.mv (.t p21)) [] 2] false
def c129_11 : CC := .loop (.seq (.seq c129_5 (.cond (.t p19) .skip (.exit 0))) (.seq (.blk 1 (.seq c129_6 (.seq c129_7 (.cond (.t p29) (.seq c129_8 c129_9) .skip)))) c129_10))
def c129_12 : CC := .reg [
  .mk (some p36) none (.mv (.t p0)) [] 0,
  .mk (some p37) none (.mv (.t p5)) [] 1,
  .mk (some p38) none (.slice 11 (.t p36) (some (.t p37)) none none) [] 2,
  .mk none none (.clear 11 [(.bool false), (.str []), (.bool false), (.int .i64 0), (.bool false), (.int .i64 0), (.int .i64 0), (.str []), (.bool false), .nils, (.int .i64 0)] (.t p38)) [] 3] false
def c129_13 : CC := .reg [
  .mk (some p39) none (.mv (.t p0)) [] 0,
  .mk (some p40) none (.mv (.t p5)) [] 1,
  .mk (some p41) none (.slice 11 (.t p39) none (some (.t p40)) none) [] 2,
  .mk (some p4) none (.mv (.t p41)) [] 3] false
def F129 : CF := .mk 42 [p0, p1] 6 (.seq c129_0 (.seq c129_1 (.seq (.seq c129_2 (.cond (.t p12) (.seq c129_3 .ret) .skip)) (.seq (.seq c129_4 (.blk 0 c129_11)) (.seq c129_12 (.seq c129_13 .ret)))))) [.t p4] 0
/- slices.Clone[[]daybook/api.Item,daybook/api.Item] -/
def c130_0 : CC := .reg [
  .mk (some p2) none (.mv (.c .nils)) [] 0] false
def c130_1 : CC := .reg [
  .mk (some p3) none (.mv (.t p0)) [] 0,
  .mk (some p4) none (.bin .eql .slice (.t p3) (.c .nils)) [] 1] false
def c130_2 : CC := .reg [
  .mk (some p2) none (.mv (.c .nils)) [] 0] false
def c130_3 : CC := .reg [
  .mk (some p5) none (.bslice 44 11 [(.bool false), (.str []), (.bool false), (.int .i64 0), (.bool false), (.int .i64 0), (.int .i64 0), (.str []), (.bool false), .nils, (.int .i64 0)] 0 []) [] 0,
  .mk (some p6) none (.mv (.t p0)) [] 1,
  .mk (some p7) none (.append 44 11 (.t p5) (.t p6)) [] 2,
  .mk (some p2) none (.mv (.t p7)) [] 3] false
def F130 : CF := .mk 8 [p0] 4 (.seq c130_0 (.seq (.seq c130_1 (.cond (.t p4) (.seq c130_2 .ret) .skip)) (.seq c130_3 .ret))) [.t p2] 0
/- (*daybook/pull.puller).items$1 -/
def c131_0 : CC := .reg [
  .mk (some p1) none (.box 44 (.t p0)) [] 0,
  .mk (some p2) none (.mv (.c (.bool false))) [] 1] false
def c131_1 : CC := .reg [
  .mk (some p3) none (.faddr 0 (.t p1)) [] 0,
  .mk (some p4) none (.load 1 false (.t p3)) [] 1,
  .mk (some p2) none (.mv (.t p4)) [] 2] false
def F131 : CF := .mk 5 [p0] 3 (.seq c131_0 (.seq c131_1 .ret)) [.t p2] 0
/- slices.ContainsFunc[[]daybook/api.Fact,daybook/api.Fact] -/
def c132_0 : CC := .reg [
  .mk (some p4) none (.mv (.c (.bool false))) [] 0] false
def c132_1 : CC := .reg [
  .mk (some p5) none (.mv (.t p0)) [] 0,
  .mk (some p6) none (.mv (.t p1)) [] 1,
  .mk (some p7) none (.call (.c (.fn 167 [])) [(.t p5), (.t p6)]) [] 2,
  .mk (some p8) none (.bin .geq .num (.t p7) (.c (.int .i64 0))) [] 3,
  .mk (some p4) none (.mv (.t p8)) [] 4] false
def F132 : CF := .mk 9 [p0, p1] 4 (.seq c132_0 (.seq c132_1 .ret)) [.t p4] 2
/- (*daybook/pull.puller).items$2 -/
def c133_0 : CC := .reg [
  .mk (some p3) none (.box 71 (.t p0)) [] 0,
  .mk (some p4) none (.mv (.c (.bool false))) [] 1] false
def c133_1 : CC := .reg [
  .mk (some p5) none (.faddr 0 (.t p3)) [] 0,
  .mk (some p6) none (.load 1 false (.t p5)) [] 1,
  .mk (some p7) none (.load 1 false (.t p1)) [] 2,
  .mk (some p8) none (.bin .eql .num (.t p6) (.t p7)) [] 3,
  .mk (some p9) none (.mv (.t p8)) [] 4,
  .mk (some p10) (some (p9, true)) (.faddr 1 (.t p3)) [] 5,
  .mk (some p11) (some (p9, true)) (.load 1 false (.t p10)) [] 6,
  .mk (some p12) (some (p9, true)) (.faddr 0 (.t p2)) [] 7,
  .mk (some p13) (some (p9, true)) (.load 1 false (.t p12)) [] 8,
  .mk (some p14) (some (p9, true)) (.bin .eql .num (.t p11) (.t p13)) [] 9,
  .mk (some p15) none (.pick (.t p9) (.t p14) (.c (.bool false))) [] 10,
  .mk (some p4) none (.mv (.t p15)) [] 11] false
def F133 : CF := .mk 16 [p0, p1, p2] 5 (.seq c133_0 (.seq c133_1 .ret)) [.t p4] 0
/- (*daybook/pull.puller).items$3 -/
def c134_0 : CC := .reg [
  .mk (some p2) none (.box 44 (.t p0)) [] 0,
  .mk (some p3) none (.mv (.c (.bool false))) [] 1] false
def c134_1 : CC := .reg [
  .mk (some p4) none (.faddr 0 (.t p2)) [] 0,
  .mk (some p5) none (.load 1 false (.t p4)) [] 1,
  .mk (some p6) none (.un .not (.t p5)) [] 2,
  .mk (some p7) none (.mv (.t p6)) [] 3,
  .mk (some p8) (some (p7, true)) (.faddr 1 (.t p2)) [] 4,
  .mk (some p9) (some (p7, true)) (.load 1 false (.t p8)) [] 5,
  .mk (some p10) (some (p7, true)) (.faddr 1 (.t p1)) [] 6,
  .mk (some p11) (some (p7, true)) (.load 1 false (.t p10)) [] 7,
  .mk (some p12) (some (p7, true)) (.bin .eql .num (.t p9) (.t p11)) [] 8,
  .mk (some p13) none (.pick (.t p7) (.t p12) (.c (.bool false))) [] 9,
  .mk (some p14) none (.mv (.t p13)) [] 10,
  .mk (some p15) (some (p14, true)) (.faddr 2 (.t p2)) [] 11,
  .mk (some p16) (some (p14, true)) (.load 1 false (.t p15)) [] 12,
  .mk (some p17) (some (p14, true)) (.un .not (.t p16)) [] 13,
  .mk (some p18) none (.pick (.t p14) (.t p17) (.c (.bool false))) [] 14,
  .mk (some p3) none (.mv (.t p18)) [] 15] false
def F134 : CF := .mk 19 [p0, p1] 5 (.seq c134_0 (.seq c134_1 .ret)) [.t p3] 0
/- (*daybook/pull.puller).values -/
def c135_0 : CC := .reg [
  .mk (some p3) none (.box 104 (.t p0)) [] 0,
  .mk (some p4) none (.box 2 (.t p1)) [] 1,
  .mk (some p5) none (.box 44 (.t p2)) [] 2,
  .mk (some p6) none (.mv (.c .nilf)) [] 3] false
def c135_1 : CC := .reg [
  .mk (some p8) none (.load 1 false (.t p3)) [] 0,
  .mk (some p9) none (.nilck (.t p8)) [] 1,
  .mk (some p10) none (.faddr 1 (.t p9)) [] 2,
  .mk (some p11) none (.load 1 false (.t p10)) [] 3,
  .mk (some p12) none (.faddr 1 (.t p5)) [] 4,
  .mk (some p13) none (.load 1 false (.t p12)) [] 5,
  .mk (some p14) none (.lookup true (.int .i64 0) false (.t p11) (.t p13)) [] 6,
  .mk (some p7) none (.alloc 2 [(.int .i64 0)]) [] 7,
  .mk none none (.store 1 (.t p7) (.t p14)) [] 8] true
def c135_2 : CC := .reg [
  .mk (some p15) none (.mkfn 168 [(.t p3), (.t p7), (.t p5), (.t p4)]) [] 0,
  .mk (some p6) none (.mv (.t p15)) [] 1] false
def F135 : CF := .mk 16 [p0, p1, p2] 5 (.seq c135_0 (.seq c135_1 (.seq c135_2 .ret))) [.t p6] 0
/- (*daybook/pull.puller).leaf -/
def c136_0 : CC := .reg [
  .mk (some p6) none (.box 34 (.t p1)) [] 0,
  .mk (some p7) none (.box 44 (.t p2)) [] 1,
  .mk (some p10) none (.alloc 76 [(.int .i64 0), (.int .i64 0), (.str []), (.bool false), .nils]) [] 2] false
def c136_1 : CC := .reg [
  .mk (some p14) none (.mv (.t p0)) [] 0,
  .mk (some p15) none (.nilck (.t p14)) [] 1,
  .mk (some p16) none (.faddr 3 (.t p15)) [] 2,
  .mk (some p17) none (.load 1 false (.t p16)) [] 3,
  .mk (some p18) none (.bin .add .num (.t p17) (.c (.int .i64 1))) [] 4,
  .mk (some p19) none (.nilck (.t p14)) [] 5,
  .mk (some p20) none (.faddr 3 (.t p19)) [] 6,
  .mk none none (.store 1 (.t p20) (.t p18)) [] 7] false
def c136_2 : CC := .reg [
  .mk (some p21) none (.mv (.t p0)) [] 0,
  .mk (some p22) none (.mv (.t p0)) [] 1,
  .mk (some p23) none (.nilck (.t p22)) [] 2,
  .mk (some p24) none (.faddr 4 (.t p23)) [] 3,
  .mk (some p25) none (.load 1 false (.t p24)) [] 4,
  .mk (some p26) none (.mv (.t p25)) [] 5,
  .mk (some p27) (some (p26, false)) (.mv (.t p0)) [] 6,
  .mk (some p28) (some (p26, false)) (.nilck (.t p27)) [] 7,
  .mk (some p29) (some (p26, false)) (.faddr 3 (.t p28)) [] 8,
  .mk (some p30) (some (p26, false)) (.load 1 false (.t p29)) [] 9,
  .mk (some p31) (some (p26, false)) (.bin .gtr .num (.t p30) (.c (.int .i64 10000))) [] 10,
  .mk (some p32) none (.pick (.t p26) (.c (.bool true)) (.t p31)) [] 11,
  .mk (some p33) none (.nilck (.t p21)) [] 12,
  .mk (some p34) none (.faddr 4 (.t p33)) [] 13,
  .mk none none (.store 1 (.t p34) (.t p32)) [] 14] false
def c136_3 : CC := .reg [
  .mk (some p35) none (.load 3 true (.t p6)) [] 0,
  .mk (some p36) none (.build [(.int .i64 0), (.int .i64 0), (.str []), (.bool false), .nils] [(0, 3, (.t p35))]) [] 1,
  .mk (some p11) none (.alloc 76 [(.int .i64 0), (.int .i64 0), (.str []), (.bool false), .nils]) [] 2,
  .mk none none (.store 5 (.t p11) (.t p36)) [] 3] false
def c136_4 : CC := .reg [
  .mk (some p37) none (.mv (.t p0)) [] 0,
  .mk (some p38) none (.nilck (.t p37)) [] 1,
  .mk (some p39) none (.faddr 4 (.t p38)) [] 2,
  .mk (some p40) none (.load 1 false (.t p39)) [] 3,
  .mk (some p41) none (.mv (.t p40)) [] 4,
  .mk (some p42) (some (p41, false)) (.faddr 0 (.t p6)) [] 5,
  .mk (some p43) (some (p41, false)) (.load 1 false (.t p42)) [] 6,
  .mk (some p44) (some (p41, false)) (.bin .neq .num (.t p43) (.c (.int .i64 5))) [] 7,
  .mk (some p45) none (.pick (.t p41) (.c (.bool true)) (.t p44)) [] 8] false
def c136_5 : CC := .reg [
  .mk (some p46) none (.load 5 true (.t p11)) [] 0,
  .mk none none (.store 5 (.t p10) (.t p46)) [] 1] false
def c136_6 : CC := .reg [
  .mk (some p48) none (.load 11 true (.t p7)) [] 0,
  .mk (some p49) none (.mv (.t p3)) [] 1,
  .mk (some p50) none (.faddr 1 (.t p6)) [] 2,
  .mk (some p51) none (.load 1 false (.t p50)) [] 3,
  .mk (some p52) none (.mv (.t p4)) [] 4,
  .mk (some p53) none (.call (.c (.fn 169 [])) [(.t p48), (.t p49), (.t p51), (.t p52)]) [] 5,
  .mk (some p47) none (.mv (.t p53)) [] 6,
  .mk (some p54) none (.ext 0 (.t p47)) [] 7,
  .mk (some p55) none (.ext 1 (.t p47)) [] 8,
  .mk (some p12) none (.mv (.t p54)) [] 9,
  .mk (some p13) none (.mv (.t p55)) [] 10] false
def c136_7 : CC := .reg [
  .mk (some p56) none (.mv (.t p13)) [] 0] false
def c136_8 : CC := .reg [
  .mk (some p57) none (.faddr 3 (.t p11)) [] 0,
  .mk none none (.store 1 (.t p57) (.c (.bool true))) [] 1] false
def c136_9 : CC := .reg [
  .mk (some p58) none (.mv (.t p0)) [] 0,
  .mk (some p59) none (.faddr 1 (.t p6)) [] 1,
  .mk (some p60) none (.load 1 false (.t p59)) [8, 9] 2,
  .mk (some p61) none (.mv (.t p12)) [] 3,
  .mk (some p62) none (.mv (.t p4)) [] 4,
  .mk (some p64) none (.faddr 1 (.t p6)) [] 6,
  .mk (some p65) none (.load 1 false (.t p64)) [8] 7,
  .mk (some p66) none (.bslice 2 1 [(.int .i64 0)] 1 [(0, (.t p65))]) [8] 8,
  .mk (some p63) none (.call (.c (.fn 170 [])) [(.t p62)]) [] 5,
  .mk (some p67) none (.append 2 1 (.t p63) (.t p66)) [] 9,
  .mk (some p68) none (.call (.c (.fn 56 [])) [(.t p58), (.t p60), (.t p61), (.t p67)]) [] 10,
  .mk (some p69) none (.faddr 4 (.t p11)) [] 11,
  .mk none none (.store 1 (.t p69) (.t p68)) [] 12] true
def c136_10 : CC := .reg [
  .mk (some p70) none (.load 5 true (.t p11)) [] 0,
  .mk none none (.store 5 (.t p10) (.t p70)) [] 1] false
def F136 : CF := .mk 71 [p0, p1, p2, p3, p4] 7 (.seq c136_0 (.seq c136_1 (.seq c136_2 (.seq c136_3 (.seq (.seq c136_4 (.cond (.t p45) (.seq c136_5 .ret) .skip)) (.seq (.seq c136_6 (.seq c136_7 (.cond (.t p56) (.seq c136_8 c136_9) .skip))) (.seq c136_10 .ret))))))) [.cell p10 5 true] 2
/- slices.pdqsortCmpFunc[daybook/api.Branch] -/
def c137_0 : CC := .reg [
  .mk (some p10) none (.mv (.c (.bool true))) [] 0] false
def c137_1 : CC := .reg [
  .mk (some p11) none (.mv (.c (.bool true))) [] 0] false
def c137_2 : CC := .reg [
  .mk (some p21) none (.mv (.t p2)) [] 0,
  .mk (some p22) none (.mv (.t p1)) [] 1,
  .mk (some p23) none (.bin .sub .num (.t p21) (.t p22)) [] 2,
  .mk (some p12) none (.mv (.t p23)) [] 3] false
def c137_3 : CC := .reg [
  .mk (some p24) none (.mv (.t p12)) [] 0,
  .mk (some p25) none (.bin .leq .num (.t p24) (.c (.int .i64 12))) [] 1] false
def c137_4 : CC := .reg [
  .mk (some p26) none (.mv (.t p0)) [] 0,
  .mk (some p27) none (.mv (.t p1)) [] 1,
  .mk (some p28) none (.mv (.t p2)) [] 2,
  .mk (some p29) none (.mv (.t p4)) [] 3,
  .mk (some p30) none (.call (.c (.fn 171 [])) [(.t p26), (.t p27), (.t p28), (.t p29)]) [] 4] false
def c137_5 : CC := .reg [
  .mk (some p31) none (.mv (.t p3)) [] 0,
  .mk (some p32) none (.bin .eql .num (.t p31) (.c (.int .i64 0))) [] 1] false
def c137_6 : CC := .reg [
  .mk (some p33) none (.mv (.t p0)) [] 0,
  .mk (some p34) none (.mv (.t p1)) [] 1,
  .mk (some p35) none (.mv (.t p2)) [] 2,
  .mk (some p36) none (.mv (.t p4)) [] 3,
  .mk (some p37) none (.call (.c (.fn 172 [])) [(.t p33), (.t p34), (.t p35), (.t p36)]) [] 4] false
def c137_7 : CC := .reg [
  .mk (some p38) none (.mv (.t p10)) [] 0,
  .mk (some p39) none (.un .not (.t p38)) [] 1] false
def c137_8 : CC := .reg [
  .mk (some p40) none (.mv (.t p0)) [] 0,
  .mk (some p41) none (.mv (.t p1)) [] 1,
  .mk (some p42) none (.mv (.t p2)) [] 2,
  .mk (some p43) none (.mv (.t p4)) [] 3,
  .mk (some p44) none (.call (.c (.fn 173 [])) [(.t p40), (.t p41), (.t p42), (.t p43)]) [] 4] false
def c137_9 : CC := .reg [
  .mk (some p45) none (.mv (.t p3)) [] 0,
  .mk (some p46) none (.bin .sub .num (.t p45) (.c (.int .i64 1))) [] 1,
  .mk (some p3) none (.mv (.t p46)) [] 2] false
def c137_10 : CC := .reg [
  .mk (some p48) none (.mv (.t p0)) [] 0,
  .mk (some p49) none (.mv (.t p1)) [] 1,
  .mk (some p50) none (.mv (.t p2)) [] 2,
  .mk (some p51) none (.mv (.t p4)) [] 3,
  .mk (some p52) none (.call (.c (.fn 174 [])) [(.t p48), (.t p49), (.t p50), (.t p51)]) [] 4,
  .mk (some p47) none (.mv (.t p52)) [] 5,
  .mk (some p53) none (.ext 0 (.t p47)) [] 6,
  .mk (some p54) none (.ext 1 (.t p47)) [] 7,
  .mk (some p13) none (.mv (.t p53)) [] 8,
  .mk (some p14) none (.mv (.t p54)) [] 9] false
def c137_11 : CC := .reg [
  .mk (some p55) none (.mv (.t p14)) [] 0,
  .mk (some p56) none (.bin .eql .num (.t p55) (.c (.int .i64 2))) [] 1] false
def c137_12 : CC := .reg [
  .mk (some p57) none (.mv (.t p0)) [] 0,
  .mk (some p58) none (.mv (.t p1)) [] 1,
  .mk (some p59) none (.mv (.t p2)) [] 2,
  .mk (some p60) none (.mv (.t p4)) [] 3,
  .mk (some p61) none (.call (.c (.fn 175 [])) [(.t p57), (.t p58), (.t p59), (.t p60)]) [] 4] false
def c137_13 : CC := .reg [
  .mk (some p62) none (.mv (.t p2)) [] 0,
  .mk (some p63) none (.bin .sub .num (.t p62) (.c (.int .i64 1))) [] 1,
  .mk (some p64) none (.mv (.t p13)) [] 2,
  .mk (some p65) none (.mv (.t p1)) [] 3,
  .mk (some p66) none (.bin .sub .num (.t p64) (.t p65)) [] 4,
  .mk (some p67) none (.bin .sub .num (.t p63) (.t p66)) [] 5,
  .mk (some p13) none (.mv (.t p67)) [] 6] false
def c137_14 : CC := .reg [
  .mk (some p14) none (.mv (.c (.int .i64 1))) [] 0] false
def c137_15 : CC := .reg [
  .mk (some p68) none (.mv (.t p10)) [] 0,
  .mk (some p69) none (.mv (.t p68)) [] 1,
  .mk (some p70) (some (p69, true)) (.mv (.t p11)) [] 2,
  .mk (some p71) none (.pick (.t p69) (.t p70) (.c (.bool false))) [] 3,
  .mk (some p72) none (.mv (.t p71)) [] 4,
  .mk (some p73) (some (p72, true)) (.mv (.t p14)) [] 5,
  .mk (some p74) (some (p72, true)) (.bin .eql .num (.t p73) (.c (.int .i64 1))) [] 6,
  .mk (some p75) none (.pick (.t p72) (.t p74) (.c (.bool false))) [] 7] false
def c137_16 : CC := .reg [
  .mk (some p76) none (.mv (.t p0)) [] 0,
  .mk (some p77) none (.mv (.t p1)) [] 1,
  .mk (some p78) none (.mv (.t p2)) [] 2,
  .mk (some p79) none (.mv (.t p4)) [] 3,
  .mk (some p80) none (.call (.c (.fn 176 [])) [(.t p76), (.t p77), (.t p78), (.t p79)]) [] 4] false
def c137_17 : CC := .reg [
  .mk (some p81) none (.mv (.t p1)) [] 0,
  .mk (some p82) none (.bin .gtr .num (.t p81) (.c (.int .i64 0))) [] 1,
  .mk (some p83) none (.mv (.t p82)) [] 2,
  .mk (some p84) (some (p83, true)) (.mv (.t p4)) [] 3,
  .mk (some p85) (some (p83, true)) (.mv (.t p0)) [] 4,
  .mk (some p86) (some (p83, true)) (.mv (.t p1)) [] 5,
  .mk (some p87) (some (p83, true)) (.bin .sub .num (.t p86) (.c (.int .i64 1))) [] 6,
  .mk (some p88) (some (p83, true)) (.iaddr 3 (.t p85) (.t p87)) [] 7,
  .mk (some p89) (some (p83, true)) (.load 3 true (.t p88)) [] 8,
  .mk (some p90) (some (p83, true)) (.mv (.t p0)) [] 9,
  .mk (some p91) (some (p83, true)) (.mv (.t p13)) [] 10,
  .mk (some p92) (some (p83, true)) (.iaddr 3 (.t p90) (.t p91)) [] 11,
  .mk (some p93) (some (p83, true)) (.load 3 true (.t p92)) [] 12,
  .mk (some p94) (some (p83, true)) (.call (.t p84) [(.t p89), (.t p93)]) [] 13,
  .mk (some p95) (some (p83, true)) (.bin .lss .num (.t p94) (.c (.int .i64 0))) [] 14,
  .mk (some p96) (some (p83, true)) (.un .not (.t p95)) [] 15,
  .mk (some p97) none (.pick (.t p83) (.t p96) (.c (.bool false))) [] 16] true
def c137_18 : CC := .reg [
  .mk (some p98) none (.mv (.t p0)) [] 0,
  .mk (some p99) none (.mv (.t p1)) [] 1,
  .mk (some p100) none (.mv (.t p2)) [] 2,
  .mk (some p101) none (.mv (.t p13)) [] 3,
  .mk (some p102) none (.mv (.t p4)) [] 4,
  .mk (some p103) none (.call (.c (.fn 177 [])) [(.t p98), (.t p99), (.t p100), (.t p101), (.t p102)]) [] 5,
  .mk (some p15) none (.mv (.t p103)) [] 6] false
def c137_19 : CC := .reg [
  .mk (some p104) none (.mv (.t p15)) [] 0,
  .mk (some p1) none (.mv (.t p104)) [] 1] false
def c137_20 : CC := .reg [
  .mk (some p106) none (.mv (.t p0)) [] 0,
  .mk (some p107) none (.mv (.t p1)) [] 1,
  .mk (some p108) none (.mv (.t p2)) [] 2,
  .mk (some p109) none (.mv (.t p13)) [] 3,
  .mk (some p110) none (.mv (.t p4)) [] 4,
  .mk (some p111) none (.call (.c (.fn 178 [])) [(.t p106), (.t p107), (.t p108), (.t p109), (.t p110)]) [] 5,
  .mk (some p105) none (.mv (.t p111)) [] 6,
  .mk (some p112) none (.ext 0 (.t p105)) [] 7,
  .mk (some p113) none (.ext 1 (.t p105)) [] 8,
  .mk (some p16) none (.mv (.t p112)) [] 9,
  .mk (some p17) none (.mv (.t p113)) [] 10] false
def c137_21 : CC := .reg [
  .mk (some p114) none (.mv (.t p17)) [] 0,
  .mk (some p11) none (.mv (.t p114)) [] 1] false
def c137_22 : CC := .reg [
  .mk (some p115) none (.mv (.t p16)) [] 0,
  .mk (some p116) none (.mv (.t p1)) [] 1,
  .mk (some p117) none (.bin .sub .num (.t p115) (.t p116)) [] 2,
  .mk (some p118) none (.mv (.t p2)) [] 3,
  .mk (some p119) none (.mv (.t p16)) [] 4,
  .mk (some p120) none (.bin .sub .num (.t p118) (.t p119)) [] 5,
  .mk (some p18) none (.mv (.t p117)) [] 6,
  .mk (some p19) none (.mv (.t p120)) [] 7] false
def c137_23 : CC := .reg [
  .mk (some p121) none (.mv (.t p12)) [] 0,
  .mk (some p122) none (.bin .quo .num (.t p121) (.c (.int .i64 8))) [] 1,
  .mk (some p20) none (.mv (.t p122)) [] 2] false
def c137_24 : CC := .reg [
  .mk (some p123) none (.mv (.t p18)) [] 0,
  .mk (some p124) none (.mv (.t p19)) [] 1,
  .mk (some p125) none (.bin .lss .num (.t p123) (.t p124)) [] 2] false
def c137_25 : CC := .reg [
  .mk (some p126) none (.mv (.t p18)) [] 0,
  .mk (some p127) none (.mv (.t p20)) [] 1,
  .mk (some p128) none (.bin .geq .num (.t p126) (.t p127)) [] 2,
  .mk (some p10) none (.mv (.t p128)) [] 3] false
def c137_26 : CC := .reg [
  .mk (some p129) none (.mv (.t p0)) [] 0,
  .mk (some p130) none (.mv (.t p1)) [] 1,
  .mk (some p131) none (.mv (.t p16)) [] 2,
  .mk (some p132) none (.mv (.t p3)) [] 3,
  .mk (some p133) none (.mv (.t p4)) [] 4,
  .mk (some p134) none (.call (.c (.fn 137 [])) [(.t p129), (.t p130), (.t p131), (.t p132), (.t p133)]) [] 5] false
def c137_27 : CC := .reg [
  .mk (some p135) none (.mv (.t p16)) [] 0,
  .mk (some p136) none (.bin .add .num (.t p135) (.c (.int .i64 1))) [] 1,
  .mk (some p1) none (.mv (.t p136)) [] 2] false
def c137_28 : CC := .reg [
  .mk (some p137) none (.mv (.t p19)) [] 0,
  .mk (some p138) none (.mv (.t p20)) [] 1,
  .mk (some p139) none (.bin .geq .num (.t p137) (.t p138)) [] 2,
  .mk (some p10) none (.mv (.t p139)) [] 3] false
def c137_29 : CC := .reg [
  .mk (some p140) none (.mv (.t p0)) [] 0,
  .mk (some p141) none (.mv (.t p16)) [] 1,
  .mk (some p142) none (.bin .add .num (.t p141) (.c (.int .i64 1))) [] 2,
  .mk (some p143) none (.mv (.t p2)) [] 3,
  .mk (some p144) none (.mv (.t p3)) [] 4,
  .mk (some p145) none (.mv (.t p4)) [] 5,
  .mk (some p146) none (.call (.c (.fn 137 [])) [(.t p140), (.t p142), (.t p143), (.t p144), (.t p145)]) [] 6] false
def c137_30 : CC := .reg [
  .mk (some p147) none (.mv (.t p16)) [] 0,
  .mk (some p2) none (.mv (.t p147)) [] 1] false
def c137_31 : CC := .loop (.blk 1 (.seq c137_2 (.seq (.seq c137_3 (.cond (.t p25) (.seq c137_4 .ret) .skip)) (.seq (.seq c137_5 (.cond (.t p32) (.seq c137_6 .ret) .skip)) (.seq (.seq c137_7 (.cond (.t p39) (.seq c137_8 c137_9) .skip)) (.seq c137_10 (.seq (.seq c137_11 (.cond (.t p56) (.seq c137_12 (.seq c137_13 c137_14)) .skip)) (.seq (.seq c137_15 (.cond (.t p75) (.seq c137_16 (.cond (.t p80) .ret .skip)) .skip)) (.seq (.seq c137_17 (.cond (.t p97) (.seq c137_18 (.seq c137_19 (.exit 1))) .skip)) (.seq c137_20 (.seq c137_21 (.seq c137_22 (.seq c137_23 (.seq c137_24 (.cond (.t p125) (.seq c137_25 (.seq c137_26 c137_27)) (.seq c137_28 (.seq c137_29 c137_30)))))))))))))))))
def F137 : CF := .mk 148 [p0, p1, p2, p3, p4] 8 (.seq c137_0 (.seq c137_1 (.blk 0 c137_31))) [] 0
/- math/bits.Len -/
def c138_0 : CC := .reg [
  .mk (some p2) none (.mv (.c (.int .i64 0))) [] 0] false
def c138_1 : CC := .reg [
  .mk (some p3) none (.mv (.t p0)) [] 0,
  .mk (some p4) none (.toint .u32 (.t p3)) [] 1,
  .mk (some p5) none (.call (.c (.fn 179 [])) [(.t p4)]) [] 2,
  .mk (some p2) none (.mv (.t p5)) [] 3] false
def c138_2 : CC := .reg [
  .mk (some p6) none (.mv (.t p0)) [] 0,
  .mk (some p7) none (.call (.c (.fn 180 [])) [(.t p6)]) [] 1,
  .mk (some p2) none (.mv (.t p7)) [] 2] false
def F138 : CF := .mk 8 [p0] 4 (.seq c138_0 (.seq (.cond (.c (.bool false)) (.seq c138_1 .ret) .skip) (.seq c138_2 .ret))) [.t p2] 1
/- cmp.Or[int] -/
def c139_0 : CC := .reg [
  .mk (some p2) none (.mv (.c (.int .i64 0))) [] 0] false
def c139_1 : CC := .reg [
  .mk (some p3) none (.mv (.c (.int .i64 0))) [] 0] false
def c139_2 : CC := .reg [
  .mk (some p6) none (.mv (.t p0)) [] 0,
  .mk (some p7) none (.len 1 (.t p6)) [] 1,
  .mk (some p8) none (.mv (.c (.int .i64 0))) [] 2] false
def c139_3 : CC := .reg [
  .mk (some p9) none (.bin .lss .num (.t p8) (.t p7)) [] 0] false
def c139_4 : CC := .reg [
  .mk (some p10) none (.iaddr 1 (.t p6) (.t p8)) [] 0,
  .mk (some p11) none (.load 1 false (.t p10)) [] 1,
  .mk (some p5) none (.mv (.t p11)) [] 2] false
def c139_5 : CC := .reg [
  .mk (some p12) none (.mv (.t p5)) [] 0,
  .mk (some p13) none (.mv (.t p3)) [] 1,
  .mk (some p14) none (.bin .neq .num (.t p12) (.t p13)) [] 2] false
def c139_6 : CC := .reg [
  .mk (some p15) none (.mv (.t p5)) [] 0,
  .mk (some p2) none (.mv (.t p15)) [] 1] false
def c139_7 : CC := .reg [
  .mk (some p16) none (.bin .add .num (.t p8) (.c (.int .i64 1))) [] 0,
  .mk (some p8) none (.mv (.t p16)) [] 1] false
def c139_8 : CC := .loop (.seq c139_3 (.seq (.cond (.t p9) .skip (.exit 0)) (.seq (.blk 1 (.seq c139_4 (.seq c139_5 (.cond (.t p14) (.seq c139_6 .ret) .skip)))) c139_7)))
def c139_9 : CC := .reg [
  .mk (some p17) none (.mv (.t p3)) [] 0,
  .mk (some p2) none (.mv (.t p17)) [] 1] false
def F139 : CF := .mk 18 [p0] 5 (.seq c139_0 (.seq c139_1 (.seq (.seq c139_2 (.blk 0 c139_8)) (.seq c139_9 .ret)))) [.t p2] 1
/- cmp.Compare[int] -/
def c141_0 : CC := .reg [
  .mk (some p4) none (.mv (.c (.int .i64 0))) [] 0] false
def c141_1 : CC := .reg [
  .mk (some p7) none (.mv (.t p0)) [] 0,
  .mk (some p8) none (.call (.c (.fn 182 [])) [(.t p7)]) [] 1,
  .mk (some p5) none (.mv (.t p8)) [] 2] false
def c141_2 : CC := .reg [
  .mk (some p9) none (.mv (.t p1)) [] 0,
  .mk (some p10) none (.call (.c (.fn 182 [])) [(.t p9)]) [] 1,
  .mk (some p6) none (.mv (.t p10)) [] 2] false
def c141_3 : CC := .reg [
  .mk (some p11) none (.mv (.t p5)) [] 0] false
def c141_4 : CC := .reg [
  .mk (some p12) none (.mv (.t p6)) [] 0] false
def c141_5 : CC := .reg [
  .mk (some p4) none (.mv (.c (.int .i64 0))) [] 0] false
def c141_6 : CC := .reg [
  .mk (some p4) none (.mv (.c (.int .i64 (-1)))) [] 0] false
def c141_7 : CC := .reg [
  .mk (some p13) none (.mv (.t p6)) [] 0] false
def c141_8 : CC := .reg [
  .mk (some p4) none (.mv (.c (.int .i64 1))) [] 0] false
def c141_9 : CC := .reg [
  .mk (some p14) none (.mv (.t p0)) [] 0,
  .mk (some p15) none (.mv (.t p1)) [] 1,
  .mk (some p16) none (.bin .lss .num (.t p14) (.t p15)) [] 2] false
def c141_10 : CC := .reg [
  .mk (some p4) none (.mv (.c (.int .i64 (-1)))) [] 0] false
def c141_11 : CC := .reg [
  .mk (some p17) none (.mv (.t p0)) [] 0,
  .mk (some p18) none (.mv (.t p1)) [] 1,
  .mk (some p19) none (.bin .gtr .num (.t p17) (.t p18)) [] 2] false
def c141_12 : CC := .reg [
  .mk (some p4) none (.mv (.c (.int .i64 1))) [] 0] false
def c141_13 : CC := .reg [
  .mk (some p4) none (.mv (.c (.int .i64 0))) [] 0] false
def F141 : CF := .mk 20 [p0, p1] 5 (.seq c141_0 (.seq c141_1 (.seq c141_2 (.seq (.seq c141_3 (.cond (.t p11) (.seq (.seq c141_4 (.cond (.t p12) (.seq c141_5 .ret) .skip)) (.seq c141_6 .ret)) .skip)) (.seq (.seq c141_7 (.cond (.t p13) (.seq c141_8 .ret) .skip)) (.seq (.seq c141_9 (.cond (.t p16) (.seq c141_10 .ret) .skip)) (.seq (.seq c141_11 (.cond (.t p19) (.seq c141_12 .ret) .skip)) (.seq c141_13 .ret)))))))) [.t p4] 1
/- daybook/pull.behind -/
def c142_0 : CC := .reg [
  .mk (some p2) none (.mv (.c (.int .i64 0))) [] 0] false
def c142_1 : CC := .reg [
  .mk (some p3) none (.mv (.t p0)) [] 0] false
def c142_2 : CC := .reg [
  .mk (some p2) none (.mv (.c (.int .i64 1))) [] 0] false
def c142_3 : CC := .reg [
  .mk (some p2) none (.mv (.c (.int .i64 0))) [] 0] false
def F142 : CF := .mk 4 [p0] 3 (.seq c142_0 (.seq (.seq c142_1 (.cond (.t p3) (.seq c142_2 .ret) .skip)) (.seq c142_3 .ret))) [.t p2] 1
/- slices.Chunk[[]daybook/api.Node,daybook/api.Node]$1 -/
def c143_0 : CC := .reg [
  .mk (some p4) none (.mv (.c (.int .i64 0))) [] 0] false
def c143_1 : CC := .reg [
  .mk (some p6) none (.mv (.t p4)) [] 0,
  .mk (some p7) none (.load 1 false (.t p1)) [] 1,
  .mk (some p8) none (.len 1 (.t p7)) [] 2,
  .mk (some p9) none (.bin .lss .num (.t p6) (.t p8)) [] 3] false
def c143_2 : CC := .reg [
  .mk (some p13) none (.load 1 false (.t p2)) [] 0,
  .mk (some p14) none (.load 1 false (.t p1)) [] 1,
  .mk (some p15) none (.mv (.t p4)) [] 2,
  .mk (some p16) none (.slice 8 (.t p14) (some (.t p15)) none none) [] 3,
  .mk (some p17) none (.len 1 (.t p16)) [] 4,
  .mk (some p18) none (.minmax false (.t p13) (.t p17)) [] 5,
  .mk (some p5) none (.mv (.t p18)) [] 6] true
def c143_3 : CC := .reg [
  .mk (some p19) none (.mv (.t p0)) [] 0,
  .mk (some p20) none (.load 1 false (.t p1)) [] 1,
  .mk (some p21) none (.mv (.t p4)) [] 2,
  .mk (some p22) none (.mv (.t p4)) [] 3,
  .mk (some p23) none (.mv (.t p5)) [] 4,
  .mk (some p24) none (.bin .add .num (.t p22) (.t p23)) [] 5,
  .mk (some p25) none (.mv (.t p4)) [] 6,
  .mk (some p26) none (.mv (.t p5)) [] 7,
  .mk (some p27) none (.bin .add .num (.t p25) (.t p26)) [] 8,
  .mk (some p28) none (.slice 8 (.t p20) (some (.t p21)) (some (.t p24)) (some (.t p27))) [] 9,
  .mk (some p29) none (.call (.t p19) [(.t p28)]) [] 10,
  .mk (some p30) none (.un .not (.t p29)) [] 11] false
def c143_4 : CC := .reg [
  .mk (some p10) none (.mv (.t p4)) [] 0,
  .mk (some p11) none (.load 1 false (.t p2)) [] 1,
  .mk (some p12) none (.bin .add .num (.t p10) (.t p11)) [] 2,
  .mk (some p4) none (.mv (.t p12)) [] 3] false
def c143_5 : CC := .loop (.seq (.seq c143_1 (.cond (.t p9) .skip (.exit 0))) (.seq (.blk 1 (.seq c143_2 (.seq c143_3 (.cond (.t p30) .ret .skip)))) c143_4))
def F143 : CF := .mk 31 [p0, p1, p2] 5 (.seq c143_0 (.blk 0 c143_5)) [] 0
/- daybook/text.size$1 -/
def c145_0 : CC := .reg [
  .mk (some p2) none (.mv (.c (.bool false))) [] 0] false
def c145_1 : CC := .reg [
  .mk (some p3) none (.mv (.t p0)) [] 0,
  .mk (some p4) none (.bin .gtr .num (.t p3) (.c (.int .u8 32))) [] 1,
  .mk (some p5) none (.mv (.t p4)) [] 2,
  .mk (some p6) (some (p5, true)) (.mv (.t p0)) [] 3,
  .mk (some p7) (some (p5, true)) (.bin .leq .num (.t p6) (.c (.int .u8 126))) [] 4,
  .mk (some p8) none (.pick (.t p5) (.t p7) (.c (.bool false))) [] 5,
  .mk (some p9) none (.mv (.t p8)) [] 6,
  .mk (some p10) (some (p9, true)) (.mv (.t p0)) [] 7,
  .mk (some p11) (some (p9, true)) (.call (.c (.fn 103 [])) [(.c (.str [40, 41, 91, 93, 123, 125, 34, 59])), (.t p10)]) [] 8,
  .mk (some p12) (some (p9, true)) (.bin .lss .num (.t p11) (.c (.int .i64 0))) [] 9,
  .mk (some p13) none (.pick (.t p9) (.t p12) (.c (.bool false))) [] 10,
  .mk (some p2) none (.mv (.t p13)) [] 11] false
def F145 : CF := .mk 14 [p0] 4 (.seq c145_0 (.seq c145_1 .ret)) [.t p2] 0
/- daybook/value.number -/
def c149_0 : CC := .reg [
  .mk (some p2) none (.mv (.c (.int .i64 0))) [] 0,
  .mk (some p3) none (.mv (.c (.bool false))) [] 1] false
def c149_1 : CC := .reg [
  .mk (some p7) none (.mv (.t p0)) [] 0,
  .mk (some p8) none (.call (.c (.fn 185 [])) [(.t p7), (.c (.int .i64 10)), (.c (.int .i64 64))]) [] 1,
  .mk (some p6) none (.mv (.t p8)) [] 2,
  .mk (some p9) none (.ext 0 (.t p6)) [] 3,
  .mk (some p10) none (.ext 1 (.t p6)) [] 4,
  .mk (some p4) none (.mv (.t p9)) [] 5,
  .mk (some p5) none (.mv (.t p10)) [] 6] false
def c149_2 : CC := .reg [
  .mk (some p11) none (.mv (.t p4)) [] 0,
  .mk (some p12) none (.mv (.t p5)) [] 1,
  .mk (some p13) none (.bin .eql .iface (.t p12) (.c .nili)) [] 2,
  .mk (some p14) none (.mv (.t p13)) [] 3,
  .mk (some p15) (some (p14, true)) (.mv (.t p4)) [] 4,
  .mk (some p16) (some (p14, true)) (.call (.c (.fn 186 [])) [(.t p15), (.c (.int .i64 10))]) [] 5,
  .mk (some p17) (some (p14, true)) (.mv (.t p0)) [] 6,
  .mk (some p18) (some (p14, true)) (.bin .eql .num (.t p16) (.t p17)) [] 7,
  .mk (some p19) none (.pick (.t p14) (.t p18) (.c (.bool false))) [] 8,
  .mk (some p2) none (.mv (.t p11)) [] 9,
  .mk (some p3) none (.mv (.t p19)) [] 10] false
def F149 : CF := .mk 20 [p0] 5 (.seq c149_0 (.seq c149_1 (.seq c149_2 .ret))) [.t p2, .t p3] 1
/- daybook/value.pairs -/
def c150_0 : CC := .reg [
  .mk (some p1) none (.box 9 (.t p0)) [] 0,
  .mk (some p2) none (.mv (.c .nilf)) [] 1] false
def c150_1 : CC := .reg [
  .mk (some p3) none (.mkfn 187 [(.t p1)]) [] 0,
  .mk (some p2) none (.mv (.t p3)) [] 1] false
def F150 : CF := .mk 4 [p0] 3 (.seq c150_0 (.seq c150_1 .ret)) [.t p2] 0
/- (*strings.Builder).WriteByte -/
def c151_0 : CC := .reg [
  .mk (some p4) none (.mv (.c .nili)) [] 0] false
def c151_1 : CC := .reg [
  .mk (some p5) none (.mv (.t p0)) [] 0,
  .mk (some p6) none (.call (.c (.fn 161 [])) [(.t p5)]) [] 1] false
def c151_2 : CC := .reg [
  .mk (some p7) none (.mv (.t p0)) [] 0,
  .mk (some p8) none (.mv (.t p0)) [] 1,
  .mk (some p9) none (.nilck (.t p8)) [] 2,
  .mk (some p10) none (.faddr 1 (.t p9)) [] 3,
  .mk (some p11) none (.load 1 false (.t p10)) [] 4,
  .mk (some p12) none (.mv (.t p1)) [] 5,
  .mk (some p13) none (.bslice 5 1 [(.int .u8 0)] 1 [(0, (.t p12))]) [] 6,
  .mk (some p14) none (.append 5 1 (.t p11) (.t p13)) [] 7,
  .mk (some p15) none (.nilck (.t p7)) [] 8,
  .mk (some p16) none (.faddr 1 (.t p15)) [] 9,
  .mk none none (.store 1 (.t p16) (.t p14)) [] 10] false
def c151_3 : CC := .reg [
  .mk (some p4) none (.mv (.c .nili)) [] 0] false
def F151 : CF := .mk 17 [p0, p1] 5 (.seq c151_0 (.seq c151_1 (.seq c151_2 (.seq c151_3 .ret)))) [.t p4] 0
/- strings.CutSuffix -/
def c152_0 : CC := .reg [
  .mk (some p4) none (.mv (.c (.str []))) [] 0,
  .mk (some p5) none (.mv (.c (.bool false))) [] 1] false
def c152_1 : CC := .reg [
  .mk (some p6) none (.mv (.t p0)) [] 0,
  .mk (some p7) none (.mv (.t p1)) [] 1,
  .mk (some p8) none (.call (.c (.fn 189 [])) [(.t p6), (.t p7)]) [] 2,
  .mk (some p9) none (.ext 0 (.t p8)) [] 3,
  .mk (some p10) none (.ext 1 (.t p8)) [] 4,
  .mk (some p4) none (.mv (.t p9)) [] 5,
  .mk (some p5) none (.mv (.t p10)) [] 6] false
def F152 : CF := .mk 11 [p0, p1] 4 (.seq c152_0 (.seq c152_1 .ret)) [.t p4, .t p5] 1
/- daybook/value.quoted -/
def c153_0 : CC := .reg [
  .mk (some p2) none (.mv (.c (.str []))) [] 0,
  .mk (some p3) none (.mv (.c (.bool false))) [] 1] false
def c153_1 : CC := .reg [
  .mk (some p4) none (.alloc 148 [.nilp, .nils]) [] 0] false
def c153_2 : CC := .reg [
  .mk (some p5) none (.mv (.c (.int .i64 0))) [] 0] false
def c153_3 : CC := .reg [
  .mk (some p8) none (.mv (.t p5)) [] 0,
  .mk (some p9) none (.mv (.t p0)) [] 1,
  .mk (some p10) none (.len 0 (.t p9)) [] 2,
  .mk (some p11) none (.bin .lss .num (.t p8) (.t p10)) [] 3] false
def c153_4 : CC := .reg [
  .mk (some p12) none (.mv (.t p0)) [] 0,
  .mk (some p13) none (.mv (.t p5)) [] 1,
  .mk (some p14) none (.index (.t p12) (.t p13)) [] 2,
  .mk (some p15) none (.call (.c (.fn 190 [])) [(.t p14)]) [] 3] false
def c153_5 : CC := .reg [
  .mk (some p16) none (.mv (.t p0)) [] 0,
  .mk (some p17) none (.mv (.t p5)) [] 1,
  .mk (some p18) none (.index (.t p16) (.t p17)) [] 2,
  .mk (some p19) none (.call (.c (.fn 151 [])) [(.t p4), (.t p18)]) [] 3] false
def c153_6 : CC := .reg [
  .mk (some p20) none (.mv (.t p5)) [] 0,
  .mk (some p21) none (.bin .add .num (.t p20) (.c (.int .i64 1))) [] 1,
  .mk (some p5) none (.mv (.t p21)) [] 2] false
def c153_7 : CC := .reg [
  .mk (some p23) none (.mv (.t p0)) [] 0,
  .mk (some p24) none (.mv (.t p5)) [] 1,
  .mk (some p25) none (.bin .add .num (.t p24) (.c (.int .i64 1))) [] 2,
  .mk (some p26) none (.slices (.t p23) (some (.t p25)) none) [] 3,
  .mk (some p27) none (.call (.c (.fn 188 [])) [(.t p26)]) [] 4,
  .mk (some p22) none (.mv (.t p27)) [] 5,
  .mk (some p28) none (.ext 0 (.t p22)) [] 6,
  .mk (some p29) none (.ext 1 (.t p22)) [] 7,
  .mk (some p6) none (.mv (.t p28)) [] 8,
  .mk (some p7) none (.mv (.t p29)) [] 9] false
def c153_8 : CC := .reg [
  .mk (some p30) none (.mv (.t p0)) [] 0,
  .mk (some p31) none (.mv (.t p5)) [] 1,
  .mk (some p32) none (.index (.t p30) (.t p31)) [] 2,
  .mk (some p33) none (.bin .neq .num (.t p32) (.c (.int .u8 92))) [] 3,
  .mk (some p34) none (.mv (.t p33)) [] 4,
  .mk (some p35) (some (p34, false)) (.mv (.t p7)) [] 5,
  .mk (some p36) (some (p34, false)) (.un .not (.t p35)) [] 6,
  .mk (some p37) none (.pick (.t p34) (.c (.bool true)) (.t p36)) [] 7,
  .mk (some p38) none (.mv (.t p37)) [] 8,
  .mk (some p39) (some (p38, false)) (.mv (.t p6)) [] 9,
  .mk (some p40) (some (p38, false)) (.call (.c (.fn 190 [])) [(.t p39)]) [] 10,
  .mk (some p41) none (.pick (.t p38) (.c (.bool true)) (.t p40)) [] 11] false
def c153_9 : CC := .reg [
  .mk (some p2) none (.mv (.c (.str []))) [] 0,
  .mk (some p3) none (.mv (.c (.bool false))) [] 1] false
def c153_10 : CC := .reg [
  .mk (some p42) none (.mv (.t p6)) [] 0,
  .mk (some p43) none (.call (.c (.fn 151 [])) [(.t p4), (.t p42)]) [] 1] false
def c153_11 : CC := .reg [
  .mk (some p44) none (.mv (.t p5)) [] 0,
  .mk (some p45) none (.bin .add .num (.t p44) (.c (.int .i64 3))) [] 1,
  .mk (some p5) none (.mv (.t p45)) [] 2] false
def c153_12 : CC := .loop (.seq (.seq c153_3 (.cond (.t p11) .skip (.exit 0))) (.blk 1 (.seq (.seq c153_4 (.cond (.t p15) (.seq c153_5 (.seq c153_6 (.exit 1))) .skip)) (.seq c153_7 (.seq (.seq c153_8 (.cond (.t p41) (.seq c153_9 .ret) .skip)) (.seq c153_10 c153_11))))))
def c153_13 : CC := .reg [
  .mk (some p46) none (.call (.c (.fn 86 [])) [(.t p4)]) [] 0,
  .mk (some p2) none (.mv (.t p46)) [] 1,
  .mk (some p3) none (.mv (.c (.bool true))) [] 2] false
def F153 : CF := .mk 47 [p0] 6 (.seq c153_0 (.scope (.seq c153_1 (.seq c153_2 (.seq .skip (.seq (.blk 0 c153_12) (.seq c153_13 .ret))))))) [.t p2, .t p3] 1
/- daybook/value.word -/
def c154_0 : CC := .reg [
  .mk (some p2) none (.mv (.c (.bool false))) [] 0] false
def c154_1 : CC := .reg [
  .mk (some p5) none (.mv (.t p0)) [] 0,
  .mk (some p6) none (.s2b (.t p5)) [] 1,
  .mk (some p7) none (.len 1 (.t p6)) [] 2,
  .mk (some p8) none (.mv (.c (.int .i64 0))) [] 3] false
def c154_2 : CC := .reg [
  .mk (some p9) none (.bin .lss .num (.t p8) (.t p7)) [] 0] false
def c154_3 : CC := .reg [
  .mk (some p10) none (.mv (.t p8)) [] 0,
  .mk (some p11) none (.iaddr 1 (.t p6) (.t p8)) [] 1,
  .mk (some p12) none (.load 1 false (.t p11)) [] 2,
  .mk (some p3) none (.mv (.t p10)) [] 3,
  .mk (some p4) none (.mv (.t p12)) [] 4] false
def c154_4 : CC := .reg [
  .mk (some p14) none (.mv (.t p4)) [] 0,
  .mk (some p15) none (.bin .geq .num (.t p14) (.c (.int .u8 97))) [] 1,
  .mk (some p16) none (.mv (.t p15)) [] 2,
  .mk (some p17) (some (p16, true)) (.mv (.t p4)) [] 3,
  .mk (some p18) (some (p16, true)) (.bin .leq .num (.t p17) (.c (.int .u8 122))) [] 4,
  .mk (some p19) none (.pick (.t p16) (.t p18) (.c (.bool false))) [] 5,
  .mk (some p13) none (.mv (.t p19)) [] 6] false
def c154_5 : CC := .reg [
  .mk (some p21) none (.mv (.t p3)) [] 0,
  .mk (some p22) none (.bin .gtr .num (.t p21) (.c (.int .i64 0))) [] 1,
  .mk (some p23) none (.mv (.t p22)) [] 2,
  .mk (some p24) (some (p23, true)) (.mv (.t p4)) [] 3,
  .mk (some p25) (some (p23, true)) (.bin .geq .num (.t p24) (.c (.int .u8 48))) [] 4,
  .mk (some p26) (some (p23, true)) (.mv (.t p25)) [] 5,
  .mk (some p27) (some (p26, true)) (.mv (.t p4)) [] 6,
  .mk (some p28) (some (p26, true)) (.bin .leq .num (.t p27) (.c (.int .u8 57))) [] 7,
  .mk (some p29) (some (p23, true)) (.pick (.t p26) (.t p28) (.c (.bool false))) [] 8,
  .mk (some p30) (some (p23, true)) (.mv (.t p29)) [] 9,
  .mk (some p31) (some (p30, false)) (.mv (.t p4)) [] 10,
  .mk (some p32) (some (p30, false)) (.bin .eql .num (.t p31) (.c (.int .u8 46))) [] 11,
  .mk (some p33) (some (p23, true)) (.pick (.t p30) (.c (.bool true)) (.t p32)) [] 12,
  .mk (some p34) (some (p23, true)) (.mv (.t p33)) [] 13,
  .mk (some p35) (some (p34, false)) (.mv (.t p4)) [] 14,
  .mk (some p36) (some (p34, false)) (.bin .eql .num (.t p35) (.c (.int .u8 95))) [] 15,
  .mk (some p37) (some (p23, true)) (.pick (.t p34) (.c (.bool true)) (.t p36)) [] 16,
  .mk (some p38) (some (p23, true)) (.mv (.t p37)) [] 17,
  .mk (some p39) (some (p38, false)) (.mv (.t p4)) [] 18,
  .mk (some p40) (some (p38, false)) (.bin .eql .num (.t p39) (.c (.int .u8 45))) [] 19,
  .mk (some p41) (some (p23, true)) (.pick (.t p38) (.c (.bool true)) (.t p40)) [] 20,
  .mk (some p42) (some (p23, true)) (.mv (.t p41)) [] 21,
  .mk (some p43) (some (p42, false)) (.mv (.t p4)) [] 22,
  .mk (some p44) (some (p42, false)) (.bin .eql .num (.t p43) (.c (.int .u8 47))) [] 23,
  .mk (some p45) (some (p23, true)) (.pick (.t p42) (.c (.bool true)) (.t p44)) [] 24,
  .mk (some p46) none (.pick (.t p23) (.t p45) (.c (.bool false))) [] 25,
  .mk (some p20) none (.mv (.t p46)) [] 26] false
def c154_6 : CC := .reg [
  .mk (some p2) none (.mv (.c (.bool false))) [] 0] false
def c154_7 : CC := .reg [
  .mk (some p47) none (.bin .add .num (.t p8) (.c (.int .i64 1))) [] 0,
  .mk (some p8) none (.mv (.t p47)) [] 1] false
def c154_8 : CC := .loop (.seq c154_2 (.seq (.cond (.t p9) .skip (.exit 0)) (.seq (.blk 1 (.seq c154_3 (.blk 2 (.seq c154_4 (.cond (.t p13) .skip (.seq c154_5 (.cond (.t p20) .skip (.seq c154_6 .ret)))))))) c154_7)))
def c154_9 : CC := .reg [
  .mk (some p48) none (.mv (.t p0)) [] 0,
  .mk (some p49) none (.len 0 (.t p48)) [] 1,
  .mk (some p50) none (.bin .geq .num (.t p49) (.c (.int .i64 1))) [] 2,
  .mk (some p51) none (.mv (.t p50)) [] 3,
  .mk (some p52) (some (p51, true)) (.mv (.t p0)) [] 4,
  .mk (some p53) (some (p51, true)) (.len 0 (.t p52)) [] 5,
  .mk (some p54) (some (p51, true)) (.bin .leq .num (.t p53) (.c (.int .i64 64))) [] 6,
  .mk (some p55) none (.pick (.t p51) (.t p54) (.c (.bool false))) [] 7,
  .mk (some p2) none (.mv (.t p55)) [] 8] false
def F154 : CF := .mk 56 [p0] 6 (.seq c154_0 (.seq (.seq c154_1 (.blk 0 c154_8)) (.seq c154_9 .ret))) [.t p2] 1
/- daybook/shape.options -/
def c157_0 : CC := .reg [
  .mk (some p4) none (.mv (.c (.bool false))) [] 0] false
def c157_1 : CC := .reg [
  .mk (some p7) none (.mv (.t p1)) [] 0,
  .mk (some p8) none (.len 1 (.t p7)) [] 1,
  .mk (some p9) none (.bin .gtr .num (.t p8) (.c (.int .i64 0))) [] 2,
  .mk (some p10) none (.mv (.t p9)) [] 3,
  .mk (some p11) (some (p10, true)) (.mv (.t p1)) [] 4,
  .mk (some p12) (some (p10, true)) (.iaddr 8 (.t p11) (.c (.int .i64 0))) [] 5,
  .mk (some p13) (some (p10, true)) (.load 8 true (.t p12)) [] 6,
  .mk (some p14) (some (p10, true)) (.call (.c (.fn 112 [])) [(.t p13), (.c (.str [98, 97, 99, 107]))]) [] 7,
  .mk (some p15) none (.pick (.t p10) (.t p14) (.c (.bool false))) [] 8] false
def c157_2 : CC := .reg [
  .mk (some p16) none (.mv (.t p0)) [] 0,
  .mk (some p17) none (.nilck (.t p16)) [] 1,
  .mk (some p18) none (.faddr 2 (.t p17)) [] 2,
  .mk none none (.store 1 (.t p18) (.c (.bool true))) [] 3] false
def c157_3 : CC := .reg [
  .mk (some p19) none (.mv (.t p1)) [] 0,
  .mk (some p20) none (.slice 8 (.t p19) (some (.c (.int .i64 1))) none none) [] 1,
  .mk (some p1) none (.mv (.t p20)) [] 2] false
def c157_4 : CC := .reg [
  .mk (some p21) none (.mv (.t p1)) [] 0,
  .mk (some p22) none (.len 1 (.t p21)) [] 1,
  .mk (some p23) none (.bin .gtr .num (.t p22) (.c (.int .i64 1))) [] 2,
  .mk (some p24) none (.mv (.t p23)) [] 3,
  .mk (some p25) (some (p24, true)) (.mv (.t p1)) [] 4,
  .mk (some p26) (some (p24, true)) (.iaddr 8 (.t p25) (.c (.int .i64 0))) [] 5,
  .mk (some p27) (some (p24, true)) (.load 8 true (.t p26)) [] 6,
  .mk (some p28) (some (p24, true)) (.call (.c (.fn 112 [])) [(.t p27), (.c (.str [108, 105, 109, 105, 116]))]) [] 7,
  .mk (some p29) none (.pick (.t p24) (.t p28) (.c (.bool false))) [] 8] false
def c157_5 : CC := .reg [
  .mk (some p31) none (.mv (.t p1)) [] 0,
  .mk (some p32) none (.iaddr 8 (.t p31) (.c (.int .i64 1))) [] 1,
  .mk (some p33) none (.load 8 true (.t p32)) [] 2,
  .mk (some p34) none (.call (.c (.fn 114 [])) [(.t p33)]) [] 3,
  .mk (some p30) none (.mv (.t p34)) [] 4,
  .mk (some p35) none (.ext 0 (.t p30)) [] 5,
  .mk (some p36) none (.ext 1 (.t p30)) [] 6,
  .mk (some p5) none (.mv (.t p35)) [] 7,
  .mk (some p6) none (.mv (.t p36)) [] 8] false
def c157_6 : CC := .reg [
  .mk (some p37) none (.mv (.t p6)) [] 0,
  .mk (some p38) none (.un .not (.t p37)) [] 1] false
def c157_7 : CC := .reg [
  .mk (some p4) none (.mv (.c (.bool false))) [] 0] false
def c157_8 : CC := .reg [
  .mk (some p39) none (.mv (.t p0)) [] 0,
  .mk (some p40) none (.mv (.t p5)) [] 1,
  .mk (some p41) none (.nilck (.t p39)) [] 2,
  .mk (some p42) none (.faddr 3 (.t p41)) [] 3,
  .mk none none (.store 1 (.t p42) (.t p40)) [] 4] false
def c157_9 : CC := .reg [
  .mk (some p43) none (.mv (.t p1)) [] 0,
  .mk (some p44) none (.slice 8 (.t p43) (some (.c (.int .i64 2))) none none) [] 1,
  .mk (some p1) none (.mv (.t p44)) [] 2] false
def c157_10 : CC := .reg [
  .mk (some p45) none (.mv (.t p1)) [] 0,
  .mk (some p46) none (.len 1 (.t p45)) [] 1,
  .mk (some p47) none (.bin .gtr .num (.t p46) (.c (.int .i64 1))) [] 2,
  .mk (some p48) none (.mv (.t p47)) [] 3,
  .mk (some p49) (some (p48, true)) (.mv (.t p1)) [] 4,
  .mk (some p50) (some (p48, true)) (.iaddr 8 (.t p49) (.c (.int .i64 0))) [] 5,
  .mk (some p51) (some (p48, true)) (.load 8 true (.t p50)) [] 6,
  .mk (some p52) (some (p48, true)) (.call (.c (.fn 112 [])) [(.t p51), (.c (.str [100, 101, 102, 97, 117, 108, 116]))]) [] 7,
  .mk (some p53) none (.pick (.t p48) (.t p52) (.c (.bool false))) [] 8,
  .mk (some p54) none (.mv (.t p53)) [] 9,
  .mk (some p55) (some (p54, true)) (.mv (.t p1)) [] 10,
  .mk (some p56) (some (p54, true)) (.iaddr 8 (.t p55) (.c (.int .i64 1))) [] 11,
  .mk (some p57) (some (p54, true)) (.faddr 0 (.t p56)) [] 12,
  .mk (some p58) (some (p54, true)) (.load 1 false (.t p57)) [] 13,
  .mk (some p59) (some (p54, true)) (.bin .eql .num (.t p58) (.c (.int .i64 1))) [] 14,
  .mk (some p60) none (.pick (.t p54) (.t p59) (.c (.bool false))) [] 15] false
def c157_11 : CC := .reg [
  .mk (some p61) none (.mv (.t p0)) [] 0,
  .mk (some p62) none (.mv (.t p0)) [] 1,
  .mk (some p63) none (.mv (.t p1)) [] 2,
  .mk (some p64) none (.iaddr 8 (.t p63) (.c (.int .i64 1))) [] 3,
  .mk (some p65) none (.faddr 1 (.t p64)) [] 4,
  .mk (some p66) none (.load 3 true (.t p65)) [] 5,
  .mk (some p67) none (.nilck (.t p61)) [] 6,
  .mk (some p68) none (.faddr 4 (.t p67)) [] 7,
  .mk none none (.store 1 (.t p68) (.c (.bool true))) [] 8,
  .mk (some p69) none (.nilck (.t p62)) [] 9,
  .mk (some p70) none (.faddr 5 (.t p69)) [] 10,
  .mk none none (.store 3 (.t p70) (.t p66)) [] 11] false
def c157_12 : CC := .reg [
  .mk (some p71) none (.mv (.t p1)) [] 0,
  .mk (some p72) none (.slice 8 (.t p71) (some (.c (.int .i64 2))) none none) [] 1,
  .mk (some p1) none (.mv (.t p72)) [] 2] false
def c157_13 : CC := .reg [
  .mk (some p73) none (.mv (.t p1)) [] 0,
  .mk (some p74) none (.len 1 (.t p73)) [] 1,
  .mk (some p75) none (.bin .eql .num (.t p74) (.c (.int .i64 0))) [] 2,
  .mk (some p4) none (.mv (.t p75)) [] 3] false
def F157 : CF := .mk 76 [p0, p1] 7 (.seq c157_0 (.seq (.seq c157_1 (.cond (.t p15) (.seq c157_2 c157_3) .skip)) (.seq (.seq c157_4 (.cond (.t p29) (.seq c157_5 (.seq (.seq c157_6 (.cond (.t p38) (.seq c157_7 .ret) .skip)) (.seq c157_8 c157_9))) .skip)) (.seq (.seq c157_10 (.cond (.t p60) (.seq c157_11 c157_12) .skip)) (.seq c157_13 .ret))))) [.t p4] 2
/- daybook/shape.said -/
def c158_0 : CC := .reg [
  .mk (some p1) none (.box 34 (.t p0)) [] 0,
  .mk (some p2) none (.alloc 36 [(.int .i64 0), (.int .i64 0), (.int .i64 0), (.str []), (.str []), .nils, (.int .i64 0), (.int .i64 0)]) [] 1] false
def c158_1 : CC := .reg [
  .mk (some p3) none (.load 3 true (.t p1)) [] 0,
  .mk (some p4) none (.build [(.int .i64 0), (.int .i64 0), (.int .i64 0), (.str []), (.str []), .nils, (.int .i64 0), (.int .i64 0)] [(0, 1, (.c (.int .i64 1))), (1, 3, (.t p3))]) [] 1,
  .mk none none (.store 8 (.t p2) (.t p4)) [] 2] false
def F158 : CF := .mk 5 [p0] 3 (.seq c158_0 (.seq c158_1 .ret)) [.cell p2 8 true] 1
/- daybook/daybookref01.lower -/
def c159_0 : CC := .reg [
  .mk (some p2) none (.mv (.c (.bool false))) [] 0] false
def c159_1 : CC := .reg [
  .mk (some p3) none (.mv (.t p0)) [] 0,
  .mk (some p4) none (.bin .geq .num (.t p3) (.c (.int .u8 97))) [] 1,
  .mk (some p5) none (.mv (.t p4)) [] 2,
  .mk (some p6) (some (p5, true)) (.mv (.t p0)) [] 3,
  .mk (some p7) (some (p5, true)) (.bin .leq .num (.t p6) (.c (.int .u8 122))) [] 4,
  .mk (some p8) none (.pick (.t p5) (.t p7) (.c (.bool false))) [] 5,
  .mk (some p2) none (.mv (.t p8)) [] 6] false
def F159 : CF := .mk 9 [p0] 4 (.seq c159_0 (.seq c159_1 .ret)) [.t p2] 1
/- daybook/daybookref01.digit -/
def c160_0 : CC := .reg [
  .mk (some p2) none (.mv (.c (.bool false))) [] 0] false
def c160_1 : CC := .reg [
  .mk (some p3) none (.mv (.t p0)) [] 0,
  .mk (some p4) none (.bin .geq .num (.t p3) (.c (.int .u8 48))) [] 1,
  .mk (some p5) none (.mv (.t p4)) [] 2,
  .mk (some p6) (some (p5, true)) (.mv (.t p0)) [] 3,
  .mk (some p7) (some (p5, true)) (.bin .leq .num (.t p6) (.c (.int .u8 57))) [] 4,
  .mk (some p8) none (.pick (.t p5) (.t p7) (.c (.bool false))) [] 5,
  .mk (some p2) none (.mv (.t p8)) [] 6] false
def F160 : CF := .mk 9 [p0] 4 (.seq c160_0 (.seq c160_1 .ret)) [.t p2] 1
/- daybook/value.Text -/
def c162_0 : CC := .reg [
  .mk (some p1) none (.box 34 (.t p0)) [] 0,
  .mk (some p2) none (.mv (.c (.str []))) [] 1,
  .mk (some p3) none (.mv (.c (.int .i64 0))) [] 2] false
def c162_1 : CC := .reg [
  .mk (some p9) none (.load 3 true (.t p1)) [] 0,
  .mk (some p10) none (.call (.c (.fn 107 [])) [(.t p9)]) [] 1,
  .mk (some p11) none (.un .not (.t p10)) [] 2] false
def c162_2 : CC := .reg [
  .mk (some p2) none (.mv (.c (.str []))) [] 0,
  .mk (some p3) none (.mv (.c (.int .i64 10))) [] 1] false
def c162_3 : CC := .reg [
  .mk (some p4) none (.alloc 148 [.nilp, .nils]) [] 0] false
def c162_4 : CC := .reg [
  .mk (some p12) none (.faddr 0 (.t p1)) [] 0,
  .mk (some p13) none (.load 1 false (.t p12)) [] 1] false
def c162_5 : CC := .reg [
  .mk (some p15) none (.bin .eql .num (.t p13) (.c (.int .i64 1))) [] 0,
  .mk (some p14) none (.mv (.t p15)) [] 1] false
def c162_6 : CC := .reg [
  .mk (some p16) none (.faddr 1 (.t p1)) [] 0,
  .mk (some p17) none (.load 1 false (.t p16)) [] 1,
  .mk (some p18) none (.call (.c (.fn 186 [])) [(.t p17), (.c (.int .i64 10))]) [] 2,
  .mk (some p2) none (.mv (.t p18)) [] 3,
  .mk (some p3) none (.mv (.c (.int .i64 0))) [] 4] false
def c162_7 : CC := .reg [
  .mk (some p20) none (.bin .eql .num (.t p13) (.c (.int .i64 2))) [] 0,
  .mk (some p19) none (.mv (.t p20)) [] 1] false
def c162_8 : CC := .reg [
  .mk (some p21) none (.faddr 1 (.t p1)) [] 0,
  .mk (some p22) none (.load 1 false (.t p21)) [] 1,
  .mk (some p23) none (.bin .eql .num (.t p22) (.c (.int .i64 1))) [] 2,
  .mk (some p24) none (.call (.c (.fn 195 [])) [(.t p23)]) [] 3,
  .mk (some p2) none (.mv (.t p24)) [] 4,
  .mk (some p3) none (.mv (.c (.int .i64 0))) [] 5] false
def c162_9 : CC := .reg [
  .mk (some p26) none (.bin .eql .num (.t p13) (.c (.int .i64 5))) [] 0,
  .mk (some p25) none (.mv (.t p26)) [] 1] false
def c162_10 : CC := .reg [
  .mk (some p27) none (.faddr 1 (.t p1)) [] 0,
  .mk (some p28) none (.load 1 false (.t p27)) [] 1,
  .mk (some p29) none (.call (.c (.fn 186 [])) [(.t p28), (.c (.int .i64 10))]) [] 2,
  .mk (some p30) none (.bin .add .num (.c (.str [64])) (.t p29)) [] 3,
  .mk (some p2) none (.mv (.t p30)) [] 4,
  .mk (some p3) none (.mv (.c (.int .i64 0))) [] 5] false
def c162_11 : CC := .reg [
  .mk (some p32) none (.bin .eql .num (.t p13) (.c (.int .i64 6))) [] 0,
  .mk (some p31) none (.mv (.t p32)) [] 1] false
def c162_12 : CC := .reg [
  .mk (some p33) none (.faddr 1 (.t p1)) [] 0,
  .mk (some p34) none (.load 1 false (.t p33)) [] 1,
  .mk (some p35) none (.call (.c (.fn 186 [])) [(.t p34), (.c (.int .i64 10))]) [] 2,
  .mk (some p36) none (.bin .add .num (.c (.str [33])) (.t p35)) [] 3,
  .mk (some p2) none (.mv (.t p36)) [] 4,
  .mk (some p3) none (.mv (.c (.int .i64 0))) [] 5] false
def c162_13 : CC := .reg [
  .mk (some p38) none (.bin .eql .num (.t p13) (.c (.int .i64 7))) [] 0,
  .mk (some p37) none (.mv (.t p38)) [] 1] false
def c162_14 : CC := .reg [
  .mk (some p39) none (.faddr 2 (.t p1)) [] 0,
  .mk (some p40) none (.load 1 false (.t p39)) [] 1,
  .mk (some p41) none (.bin .add .num (.c (.str [58])) (.t p40)) [] 2,
  .mk (some p2) none (.mv (.t p41)) [] 3,
  .mk (some p3) none (.mv (.c (.int .i64 0))) [] 4] false
def c162_15 : CC := .reg [
  .mk (some p43) none (.bin .eql .num (.t p13) (.c (.int .i64 4))) [] 0,
  .mk (some p42) none (.mv (.t p43)) [] 1] false
def c162_16 : CC := .reg [
  .mk (some p44) none (.call (.c (.fn 151 [])) [(.t p4), (.c (.int .u8 35))]) [] 0] false
def c162_17 : CC := .reg [
  .mk (some p45) none (.faddr 2 (.t p1)) [] 0,
  .mk (some p46) none (.load 1 false (.t p45)) [] 1,
  .mk (some p47) none (.s2b (.t p46)) [] 2,
  .mk (some p48) none (.len 1 (.t p47)) [] 3,
  .mk (some p49) none (.mv (.c (.int .i64 0))) [] 4] false
def c162_18 : CC := .reg [
  .mk (some p50) none (.bin .lss .num (.t p49) (.t p48)) [] 0] false
def c162_19 : CC := .reg [
  .mk (some p51) none (.iaddr 1 (.t p47) (.t p49)) [] 0,
  .mk (some p52) none (.load 1 false (.t p51)) [] 1,
  .mk (some p6) none (.mv (.t p52)) [] 2] false
def c162_20 : CC := .reg [
  .mk (some p53) none (.mv (.t p6)) [] 0,
  .mk (some p54) none (.call (.c (.fn 196 [])) [(.t p53)]) [] 1,
  .mk (some p55) none (.call (.c (.fn 123 [])) [(.t p4), (.t p54)]) [] 2] false
def c162_21 : CC := .reg [
  .mk (some p56) none (.bin .add .num (.t p49) (.c (.int .i64 1))) [] 0,
  .mk (some p49) none (.mv (.t p56)) [] 1] false
def c162_22 : CC := .loop (.seq c162_18 (.seq (.cond (.t p50) .skip (.exit 1)) (.seq (.blk 2 (.seq c162_19 c162_20)) c162_21)))
def c162_23 : CC := .reg [
  .mk (some p57) none (.call (.c (.fn 86 [])) [(.t p4)]) [] 0,
  .mk (some p2) none (.mv (.t p57)) [] 1,
  .mk (some p3) none (.mv (.c (.int .i64 0))) [] 2] false
def c162_24 : CC := .reg [
  .mk (some p58) none (.call (.c (.fn 151 [])) [(.t p4), (.c (.int .u8 34))]) [] 0] false
def c162_25 : CC := .reg [
  .mk (some p59) none (.faddr 2 (.t p1)) [] 0,
  .mk (some p60) none (.load 1 false (.t p59)) [] 1,
  .mk (some p61) none (.s2b (.t p60)) [] 2,
  .mk (some p62) none (.len 1 (.t p61)) [] 3,
  .mk (some p63) none (.mv (.c (.int .i64 0))) [] 4] false
def c162_26 : CC := .reg [
  .mk (some p64) none (.bin .lss .num (.t p63) (.t p62)) [] 0] false
def c162_27 : CC := .reg [
  .mk (some p65) none (.iaddr 1 (.t p61) (.t p63)) [] 0,
  .mk (some p66) none (.load 1 false (.t p65)) [] 1,
  .mk (some p8) none (.mv (.t p66)) [] 2] false
def c162_28 : CC := .reg [
  .mk (some p67) none (.mv (.t p8)) [] 0,
  .mk (some p68) none (.call (.c (.fn 190 [])) [(.t p67)]) [] 1] false
def c162_29 : CC := .reg [
  .mk (some p69) none (.mv (.t p8)) [] 0,
  .mk (some p70) none (.call (.c (.fn 151 [])) [(.t p4), (.t p69)]) [] 1] false
def c162_30 : CC := .reg [
  .mk (some p71) none (.mv (.t p8)) [] 0,
  .mk (some p72) none (.call (.c (.fn 196 [])) [(.t p71)]) [] 1,
  .mk (some p73) none (.bin .add .num (.c (.str [92])) (.t p72)) [] 2,
  .mk (some p74) none (.call (.c (.fn 123 [])) [(.t p4), (.t p73)]) [] 3] false
def c162_31 : CC := .reg [
  .mk (some p75) none (.bin .add .num (.t p63) (.c (.int .i64 1))) [] 0,
  .mk (some p63) none (.mv (.t p75)) [] 1] false
def c162_32 : CC := .loop (.seq c162_26 (.seq (.cond (.t p64) .skip (.exit 3)) (.seq (.blk 4 (.seq c162_27 (.seq c162_28 (.cond (.t p68) c162_29 c162_30)))) c162_31)))
def c162_33 : CC := .reg [
  .mk (some p76) none (.call (.c (.fn 86 [])) [(.t p4)]) [] 0,
  .mk (some p77) none (.bin .add .num (.t p76) (.c (.str [34]))) [] 1,
  .mk (some p2) none (.mv (.t p77)) [] 2,
  .mk (some p3) none (.mv (.c (.int .i64 0))) [] 3] false
def F162 : CF := .mk 78 [p0] 7 (.seq c162_0 (.seq (.seq c162_1 (.cond (.t p11) (.seq c162_2 .ret) .skip)) (.seq c162_3 (.seq (.seq c162_4 (.blk 0 (.seq c162_5 (.cond (.t p14) (.seq c162_6 .ret) (.seq c162_7 (.cond (.t p19) (.seq c162_8 .ret) (.seq c162_9 (.cond (.t p25) (.seq c162_10 .ret) (.seq c162_11 (.cond (.t p31) (.seq c162_12 .ret) (.seq c162_13 (.cond (.t p37) (.seq c162_14 .ret) (.seq c162_15 (.cond (.t p42) (.seq c162_16 (.seq (.seq c162_17 (.blk 1 c162_22)) (.seq c162_23 .ret))) .skip)))))))))))))) (.seq c162_24 (.seq (.seq c162_25 (.blk 3 c162_32)) (.seq c162_33 .ret))))))) [.t p2, .t p3] 1
/- daybook/datom.Check -/
def c163_0 : CC := .reg [
  .mk (some p1) none (.box 154 (.t p0)) [] 0,
  .mk (some p2) none (.mv (.c (.int .i64 0))) [] 1] false
def c163_1 : CC := .reg [
  .mk (some p3) none (.load 9 true (.t p1)) [] 0,
  .mk (some p4) none (.call (.c (.fn 197 [])) [(.t p3)]) [] 1,
  .mk (some p5) none (.un .not (.t p4)) [] 2] false
def c163_2 : CC := .reg [
  .mk (some p2) none (.mv (.c (.int .i64 40))) [] 0] false
def c163_3 : CC := .reg [
  .mk (some p2) none (.mv (.c (.int .i64 0))) [] 0] false
def F163 : CF := .mk 6 [p0] 3 (.seq c163_0 (.seq (.seq c163_1 (.cond (.t p5) (.seq c163_2 .ret) .skip)) (.seq c163_3 .ret))) [.t p2] 1
/- daybook/span.Check -/
def c164_0 : CC := .reg [
  .mk (some p2) none (.mv (.c (.int .i64 0))) [] 0] false
def c164_1 : CC := .reg [
  .mk (some p3) none (.mv (.t p0)) [] 0,
  .mk (some p4) none (.call (.c (.fn 198 [])) [(.t p3)]) [] 1,
  .mk (some p5) none (.un .not (.t p4)) [] 2] false
def c164_2 : CC := .reg [
  .mk (some p2) none (.mv (.c (.int .i64 30))) [] 0] false
def c164_3 : CC := .reg [
  .mk (some p2) none (.mv (.c (.int .i64 0))) [] 0] false
def F164 : CF := .mk 6 [p0] 3 (.seq c164_0 (.seq (.seq c164_1 (.cond (.t p5) (.seq c164_2 .ret) .skip)) (.seq c164_3 .ret))) [.t p2] 1
/- cmp.Compare[int64] -/
def c165_0 : CC := .reg [
  .mk (some p4) none (.mv (.c (.int .i64 0))) [] 0] false
def c165_1 : CC := .reg [
  .mk (some p7) none (.mv (.t p0)) [] 0,
  .mk (some p8) none (.call (.c (.fn 199 [])) [(.t p7)]) [] 1,
  .mk (some p5) none (.mv (.t p8)) [] 2] false
def c165_2 : CC := .reg [
  .mk (some p9) none (.mv (.t p1)) [] 0,
  .mk (some p10) none (.call (.c (.fn 199 [])) [(.t p9)]) [] 1,
  .mk (some p6) none (.mv (.t p10)) [] 2] false
def c165_3 : CC := .reg [
  .mk (some p11) none (.mv (.t p5)) [] 0] false
def c165_4 : CC := .reg [
  .mk (some p12) none (.mv (.t p6)) [] 0] false
def c165_5 : CC := .reg [
  .mk (some p4) none (.mv (.c (.int .i64 0))) [] 0] false
def c165_6 : CC := .reg [
  .mk (some p4) none (.mv (.c (.int .i64 (-1)))) [] 0] false
def c165_7 : CC := .reg [
  .mk (some p13) none (.mv (.t p6)) [] 0] false
def c165_8 : CC := .reg [
  .mk (some p4) none (.mv (.c (.int .i64 1))) [] 0] false
def c165_9 : CC := .reg [
  .mk (some p14) none (.mv (.t p0)) [] 0,
  .mk (some p15) none (.mv (.t p1)) [] 1,
  .mk (some p16) none (.bin .lss .num (.t p14) (.t p15)) [] 2] false
def c165_10 : CC := .reg [
  .mk (some p4) none (.mv (.c (.int .i64 (-1)))) [] 0] false
def c165_11 : CC := .reg [
  .mk (some p17) none (.mv (.t p0)) [] 0,
  .mk (some p18) none (.mv (.t p1)) [] 1,
  .mk (some p19) none (.bin .gtr .num (.t p17) (.t p18)) [] 2] false
def c165_12 : CC := .reg [
  .mk (some p4) none (.mv (.c (.int .i64 1))) [] 0] false
def c165_13 : CC := .reg [
  .mk (some p4) none (.mv (.c (.int .i64 0))) [] 0] false
def F165 : CF := .mk 20 [p0, p1] 5 (.seq c165_0 (.seq c165_1 (.seq c165_2 (.seq (.seq c165_3 (.cond (.t p11) (.seq (.seq c165_4 (.cond (.t p12) (.seq c165_5 .ret) .skip)) (.seq c165_6 .ret)) .skip)) (.seq (.seq c165_7 (.cond (.t p13) (.seq c165_8 .ret) .skip)) (.seq (.seq c165_9 (.cond (.t p16) (.seq c165_10 .ret) .skip)) (.seq (.seq c165_11 (.cond (.t p19) (.seq c165_12 .ret) .skip)) (.seq c165_13 .ret)))))))) [.t p4] 1
/- daybook/value.Compare -/
def c166_0 : CC := .reg [
  .mk (some p2) none (.box 34 (.t p0)) [] 0,
  .mk (some p3) none (.box 34 (.t p1)) [] 1,
  .mk (some p4) none (.mv (.c (.int .i64 0))) [] 2] false
def c166_1 : CC := .reg [
  .mk (some p5) none (.faddr 0 (.t p2)) [] 0,
  .mk (some p6) none (.load 1 false (.t p5)) [] 1,
  .mk (some p7) none (.faddr 0 (.t p3)) [] 2,
  .mk (some p8) none (.load 1 false (.t p7)) [] 3,
  .mk (some p10) none (.faddr 1 (.t p2)) [] 5,
  .mk (some p11) none (.load 1 false (.t p10)) [12] 6,
  .mk (some p12) none (.faddr 1 (.t p3)) [] 7,
  .mk (some p13) none (.load 1 false (.t p12)) [12] 8,
  .mk (some p15) none (.faddr 2 (.t p2)) [] 10,
  .mk (some p16) none (.load 1 false (.t p15)) [12, 13] 11,
  .mk (some p17) none (.faddr 2 (.t p3)) [] 12,
  .mk (some p18) none (.load 1 false (.t p17)) [12, 13] 13,
  .mk (some p9) none (.call (.c (.fn 141 [])) [(.t p6), (.t p8)]) [] 4,
  .mk (some p14) none (.call (.c (.fn 165 [])) [(.t p11), (.t p13)]) [] 9,
  .mk (some p19) none (.call (.c (.fn 140 [])) [(.t p16), (.t p18)]) [] 14,
  .mk (some p20) none (.bslice 3 1 [(.int .i64 0)] 3 [(0, (.t p9)), (1, (.t p14)), (2, (.t p19))]) [] 15,
  .mk (some p21) none (.call (.c (.fn 139 [])) [(.t p20)]) [] 16,
  .mk (some p4) none (.mv (.t p21)) [] 17] true
def F166 : CF := .mk 22 [p0, p1] 5 (.seq c166_0 (.seq c166_1 .ret)) [.t p4] 1
/- slices.IndexFunc[[]daybook/api.Fact,daybook/api.Fact] -/
def c167_0 : CC := .reg [
  .mk (some p4) none (.mv (.c (.int .i64 0))) [] 0] false
def c167_1 : CC := .reg [
  .mk (some p6) none (.mv (.t p0)) [] 0,
  .mk (some p7) none (.len 1 (.t p6)) [] 1,
  .mk (some p8) none (.mv (.c (.int .i64 0))) [] 2] false
def c167_2 : CC := .reg [
  .mk (some p9) none (.bin .lss .num (.t p8) (.t p7)) [] 0] false
def c167_3 : CC := .reg [
  .mk (some p10) none (.mv (.t p8)) [] 0,
  .mk (some p5) none (.mv (.t p10)) [] 1] false
def c167_4 : CC := .reg [
  .mk (some p11) none (.mv (.t p1)) [] 0,
  .mk (some p12) none (.mv (.t p0)) [] 1,
  .mk (some p13) none (.mv (.t p5)) [] 2,
  .mk (some p14) none (.iaddr 6 (.t p12) (.t p13)) [] 3,
  .mk (some p15) none (.load 6 true (.t p14)) [] 4,
  .mk (some p16) none (.call (.t p11) [(.t p15)]) [] 5] false
def c167_5 : CC := .reg [
  .mk (some p17) none (.mv (.t p5)) [] 0,
  .mk (some p4) none (.mv (.t p17)) [] 1] false
def c167_6 : CC := .reg [
  .mk (some p18) none (.bin .add .num (.t p8) (.c (.int .i64 1))) [] 0,
  .mk (some p8) none (.mv (.t p18)) [] 1] false
def c167_7 : CC := .loop (.seq c167_2 (.seq (.cond (.t p9) .skip (.exit 0)) (.seq (.blk 1 (.seq c167_3 (.seq c167_4 (.cond (.t p16) (.seq c167_5 .ret) .skip)))) c167_6)))
def c167_8 : CC := .reg [
  .mk (some p4) none (.mv (.c (.int .i64 (-1)))) [] 0] false
def F167 : CF := .mk 19 [p0, p1] 5 (.seq c167_0 (.seq (.seq c167_1 (.blk 0 c167_7)) (.seq c167_8 .ret))) [.t p4] 2
/- (*daybook/pull.puller).values$1 -/
def c168_0 : CC := .reg [
  .mk (some p8) none (.load 1 false (.t p1)) [] 0,
  .mk (some p9) none (.nilck (.t p8)) [] 1,
  .mk (some p10) none (.faddr 0 (.t p9)) [] 2,
  .mk (some p11) none (.load 1 false (.t p10)) [] 3,
  .mk (some p12) none (.len 1 (.t p11)) [] 4,
  .mk (some p13) none (.mv (.c (.int .i64 0))) [] 5] false
def c168_1 : CC := .reg [
  .mk (some p14) none (.bin .lss .num (.t p13) (.t p12)) [] 0] false
def c168_2 : CC := .reg [
  .mk (some p15) none (.iaddr 6 (.t p11) (.t p13)) [] 0,
  .mk (some p16) none (.load 6 true (.t p15)) [] 1,
  .mk (some p7) none (.alloc 71 [(.int .i64 0), (.int .i64 0), (.int .i64 0), (.int .i64 0), (.str []), .nils]) [] 2,
  .mk none none (.store 6 (.t p7) (.t p16)) [] 3] false
def c168_3 : CC := .reg [
  .mk (some p18) none (.faddr 1 (.t p7)) [] 0,
  .mk (some p19) none (.load 1 false (.t p18)) [] 1,
  .mk (some p20) none (.load 1 false (.t p2)) [] 2,
  .mk (some p21) none (.bin .neq .num (.t p19) (.t p20)) [] 3,
  .mk (some p17) none (.mv (.t p21)) [] 4] false
def c168_4 : CC := .reg [
  .mk (some p23) none (.faddr 2 (.t p3)) [] 0,
  .mk (some p24) none (.load 1 false (.t p23)) [] 1,
  .mk (some p25) none (.un .not (.t p24)) [] 2,
  .mk (some p26) none (.mv (.t p25)) [] 3,
  .mk (some p27) (some (p26, true)) (.faddr 0 (.t p7)) [] 4,
  .mk (some p28) (some (p26, true)) (.load 1 false (.t p27)) [] 5,
  .mk (some p29) (some (p26, true)) (.load 1 false (.t p4)) [] 6,
  .mk (some p30) (some (p26, true)) (.bin .eql .num (.t p28) (.t p29)) [] 7,
  .mk (some p31) none (.pick (.t p26) (.t p30) (.c (.bool false))) [] 8,
  .mk (some p22) none (.mv (.t p31)) [] 9] false
def c168_5 : CC := .reg [
  .mk (some p32) none (.mv (.t p0)) [] 0,
  .mk (some p33) none (.faddr 2 (.t p7)) [] 1,
  .mk (some p34) none (.load 3 true (.t p33)) [] 2,
  .mk (some p35) none (.call (.t p32) [(.t p34)]) [] 3,
  .mk (some p36) none (.un .not (.t p35)) [] 4] false
def c168_6 : CC := .reg [
  .mk (some p38) none (.faddr 2 (.t p3)) [] 0,
  .mk (some p39) none (.load 1 false (.t p38)) [] 1,
  .mk (some p40) none (.mv (.t p39)) [] 2,
  .mk (some p41) (some (p40, true)) (.faddr 2 (.t p7)) [] 3,
  .mk (some p42) (some (p40, true)) (.faddr 0 (.t p41)) [] 4,
  .mk (some p43) (some (p40, true)) (.load 1 false (.t p42)) [] 5,
  .mk (some p44) (some (p40, true)) (.bin .eql .num (.t p43) (.c (.int .i64 5))) [] 6,
  .mk (some p45) none (.pick (.t p40) (.t p44) (.c (.bool false))) [] 7,
  .mk (some p46) none (.mv (.t p45)) [] 8,
  .mk (some p47) (some (p46, true)) (.faddr 2 (.t p7)) [] 9,
  .mk (some p48) (some (p46, true)) (.faddr 1 (.t p47)) [] 10,
  .mk (some p49) (some (p46, true)) (.load 1 false (.t p48)) [] 11,
  .mk (some p50) (some (p46, true)) (.load 1 false (.t p4)) [] 12,
  .mk (some p51) (some (p46, true)) (.bin .eql .num (.t p49) (.t p50)) [] 13,
  .mk (some p52) none (.pick (.t p46) (.t p51) (.c (.bool false))) [] 14,
  .mk (some p37) none (.mv (.t p52)) [] 15] false
def c168_7 : CC := .reg [
  .mk (some p53) none (.mv (.t p0)) [] 0,
  .mk (some p54) none (.faddr 0 (.t p7)) [] 1,
  .mk (some p55) none (.load 1 false (.t p54)) [] 2,
  .mk (some p56) none (.build [(.int .i64 0), (.int .i64 0), (.str [])] [(0, 1, (.c (.int .i64 5))), (1, 1, (.t p55))]) [] 3,
  .mk (some p57) none (.call (.t p53) [(.t p56)]) [] 4,
  .mk (some p58) none (.un .not (.t p57)) [] 5] false
def c168_8 : CC := .reg [
  .mk (some p59) none (.bin .add .num (.t p13) (.c (.int .i64 1))) [] 0,
  .mk (some p13) none (.mv (.t p59)) [] 1] false
def c168_9 : CC := .loop (.seq c168_1 (.seq (.cond (.t p14) .skip (.exit 0)) (.seq (.blk 1 (.seq c168_2 (.blk 2 (.seq c168_3 (.cond (.t p17) .skip (.seq c168_4 (.cond (.t p22) (.seq c168_5 (.cond (.t p36) .ret .skip)) (.seq c168_6 (.cond (.t p37) (.seq c168_7 (.cond (.t p58) .ret .skip)) .skip))))))))) c168_8)))
def F168 : CF := .mk 60 [p0, p1, p2, p3, p4] 6 (.seq c168_0 (.blk 0 c168_9)) [] 0
/- daybook/pull.within -/
def c169_0 : CC := .reg [
  .mk (some p4) none (.box 44 (.t p0)) [] 0,
  .mk (some p8) none (.mv (.c .nils)) [] 1,
  .mk (some p9) none (.mv (.c (.bool false))) [] 2] false
def c169_1 : CC := .reg [
  .mk (some p13) none (.faddr 8 (.t p4)) [] 0,
  .mk (some p14) none (.load 1 false (.t p13)) [] 1,
  .mk (some p12) none (.mv (.t p14)) [] 2] false
def c169_2 : CC := .reg [
  .mk (some p15) none (.faddr 9 (.t p4)) [] 0,
  .mk (some p16) none (.load 1 false (.t p15)) [] 1,
  .mk (some p8) none (.mv (.t p16)) [] 2,
  .mk (some p9) none (.mv (.c (.bool true))) [] 3] false
def c169_3 : CC := .reg [
  .mk (some p18) none (.faddr 10 (.t p4)) [] 0,
  .mk (some p19) none (.load 1 false (.t p18)) [] 1,
  .mk (some p20) none (.bin .eql .num (.t p19) (.c (.int .i64 0))) [] 2,
  .mk (some p21) none (.mv (.t p20)) [] 3,
  .mk (some p22) (some (p21, false)) (.mv (.t p3)) [] 4,
  .mk (some p23) (some (p21, false)) (.mv (.t p2)) [] 5,
  .mk (some p24) (some (p21, false)) (.call (.c (.fn 200 [])) [(.t p22), (.t p23)]) [] 6,
  .mk (some p25) none (.pick (.t p21) (.c (.bool true)) (.t p24)) [] 7,
  .mk (some p17) none (.mv (.t p25)) [] 8] false
def c169_4 : CC := .reg [
  .mk (some p8) none (.mv (.c .nils)) [] 0,
  .mk (some p9) none (.mv (.c (.bool false))) [] 1] false
def c169_5 : CC := .reg [
  .mk (some p27) none (.faddr 10 (.t p4)) [] 0,
  .mk (some p28) none (.load 1 false (.t p27)) [] 1,
  .mk (some p29) none (.bin .lss .num (.t p28) (.c (.int .i64 0))) [] 2,
  .mk (some p26) none (.mv (.t p29)) [] 3] false
def c169_6 : CC := .reg [
  .mk (some p30) none (.mv (.t p1)) [] 0,
  .mk (some p8) none (.mv (.t p30)) [] 1,
  .mk (some p9) none (.mv (.c (.bool true))) [] 2] false
def c169_7 : CC := .reg [
  .mk (some p31) none (.mv (.t p1)) [] 0,
  .mk (some p32) none (.call (.c (.fn 130 [])) [(.t p31)]) [] 1,
  .mk (some p10) none (.mv (.t p32)) [] 2] false
def c169_8 : CC := .reg [
  .mk (some p33) none (.mv (.t p10)) [] 0,
  .mk (some p34) none (.len 1 (.t p33)) [] 1,
  .mk (some p35) none (.mv (.c (.int .i64 0))) [] 2] false
def c169_9 : CC := .reg [
  .mk (some p36) none (.bin .lss .num (.t p35) (.t p34)) [] 0] false
def c169_10 : CC := .reg [
  .mk (some p37) none (.mv (.t p35)) [] 0,
  .mk (some p11) none (.mv (.t p37)) [] 1] false
def c169_11 : CC := .reg [
  .mk (some p38) none (.mv (.t p10)) [] 0,
  .mk (some p39) none (.mv (.t p11)) [] 1,
  .mk (some p40) none (.iaddr 11 (.t p38) (.t p39)) [] 2,
  .mk (some p41) none (.faddr 1 (.t p40)) [] 3,
  .mk (some p42) none (.load 1 false (.t p41)) [] 4,
  .mk (some p43) none (.faddr 1 (.t p4)) [] 5,
  .mk (some p44) none (.load 1 false (.t p43)) [] 6,
  .mk (some p45) none (.bin .eql .num (.t p42) (.t p44)) [] 7,
  .mk (some p46) none (.mv (.t p45)) [] 8,
  .mk (some p47) (some (p46, true)) (.mv (.t p10)) [] 9,
  .mk (some p48) (some (p46, true)) (.mv (.t p11)) [] 10,
  .mk (some p49) (some (p46, true)) (.iaddr 11 (.t p47) (.t p48)) [] 11,
  .mk (some p50) (some (p46, true)) (.faddr 2 (.t p49)) [] 12,
  .mk (some p51) (some (p46, true)) (.load 1 false (.t p50)) [] 13,
  .mk (some p52) (some (p46, true)) (.faddr 2 (.t p4)) [] 14,
  .mk (some p53) (some (p46, true)) (.load 1 false (.t p52)) [] 15,
  .mk (some p54) (some (p46, true)) (.bin .eql .bool (.t p51) (.t p53)) [] 16,
  .mk (some p55) none (.pick (.t p46) (.t p54) (.c (.bool false))) [] 17,
  .mk (some p56) none (.mv (.t p55)) [] 18,
  .mk (some p57) (some (p56, true)) (.mv (.t p10)) [] 19,
  .mk (some p58) (some (p56, true)) (.mv (.t p11)) [] 20,
  .mk (some p59) (some (p56, true)) (.iaddr 11 (.t p57) (.t p58)) [] 21,
  .mk (some p60) (some (p56, true)) (.faddr 0 (.t p59)) [] 22,
  .mk (some p61) (some (p56, true)) (.load 1 false (.t p60)) [] 23,
  .mk (some p62) (some (p56, true)) (.un .not (.t p61)) [] 24,
  .mk (some p63) none (.pick (.t p56) (.t p62) (.c (.bool false))) [] 25] true
def c169_12 : CC := .reg [
  .mk (some p64) none (.mv (.t p10)) [] 0,
  .mk (some p65) none (.mv (.t p11)) [] 1,
  .mk (some p66) none (.iaddr 11 (.t p64) (.t p65)) [] 2,
  .mk (some p67) none (.faddr 10 (.t p66)) [] 3,
  .mk (some p68) none (.load 1 false (.t p67)) [] 4,
  .mk (some p69) none (.bin .sub .num (.t p68) (.c (.int .i64 1))) [] 5,
  .mk (some p70) none (.iaddr 11 (.t p64) (.t p65)) [] 6,
  .mk (some p71) none (.faddr 10 (.t p70)) [] 7,
  .mk none none (.store 1 (.t p71) (.t p69)) [] 8] false
def c169_13 : CC := .reg [
  .mk (some p72) none (.bin .add .num (.t p35) (.c (.int .i64 1))) [] 0,
  .mk (some p35) none (.mv (.t p72)) [] 1] false
def c169_14 : CC := .loop (.seq c169_9 (.seq (.cond (.t p36) .skip (.exit 1)) (.seq (.blk 2 (.seq c169_10 (.seq c169_11 (.cond (.t p63) c169_12 .skip)))) c169_13)))
def c169_15 : CC := .reg [
  .mk (some p73) none (.mv (.t p10)) [] 0,
  .mk (some p8) none (.mv (.t p73)) [] 1,
  .mk (some p9) none (.mv (.c (.bool true))) [] 2] false
def F169 : CF := .mk 74 [p0, p1, p2, p3] 7 (.seq c169_0 (.seq (.blk 0 (.seq c169_1 (.cond (.t p12) (.seq c169_2 .ret) (.seq c169_3 (.cond (.t p17) (.seq c169_4 .ret) (.seq c169_5 (.cond (.t p26) (.seq c169_6 .ret) .skip))))))) (.seq c169_7 (.seq (.seq c169_8 (.blk 1 c169_14)) (.seq c169_15 .ret))))) [.t p8, .t p9] 1
/- slices.Clone[[]int64,int64] -/
def c170_0 : CC := .reg [
  .mk (some p2) none (.mv (.c .nils)) [] 0] false
def c170_1 : CC := .reg [
  .mk (some p3) none (.mv (.t p0)) [] 0,
  .mk (some p4) none (.bin .eql .slice (.t p3) (.c .nils)) [] 1] false
def c170_2 : CC := .reg [
  .mk (some p2) none (.mv (.c .nils)) [] 0] false
def c170_3 : CC := .reg [
  .mk (some p5) none (.bslice 2 1 [(.int .i64 0)] 0 []) [] 0,
  .mk (some p6) none (.mv (.t p0)) [] 1,
  .mk (some p7) none (.append 2 1 (.t p5) (.t p6)) [] 2,
  .mk (some p2) none (.mv (.t p7)) [] 3] false
def F170 : CF := .mk 8 [p0] 4 (.seq c170_0 (.seq (.seq c170_1 (.cond (.t p4) (.seq c170_2 .ret) .skip)) (.seq c170_3 .ret))) [.t p2] 0
/- slices.insertionSortCmpFunc[daybook/api.Branch] -/
def c171_0 : CC := .reg [
  .mk (some p10) none (.mv (.t p1)) [] 0,
  .mk (some p11) none (.bin .add .num (.t p10) (.c (.int .i64 1))) [] 1,
  .mk (some p8) none (.mv (.t p11)) [] 2] false
def c171_1 : CC := .reg [
  .mk (some p12) none (.mv (.t p8)) [] 0,
  .mk (some p13) none (.mv (.t p2)) [] 1,
  .mk (some p14) none (.bin .lss .num (.t p12) (.t p13)) [] 2] false
def c171_2 : CC := .reg [
  .mk (some p17) none (.mv (.t p8)) [] 0,
  .mk (some p9) none (.mv (.t p17)) [] 1] false
def c171_3 : CC := .reg [
  .mk (some p18) none (.mv (.t p9)) [] 0,
  .mk (some p19) none (.mv (.t p1)) [] 1,
  .mk (some p20) none (.bin .gtr .num (.t p18) (.t p19)) [] 2,
  .mk (some p21) none (.mv (.t p20)) [] 3,
  .mk (some p22) (some (p21, true)) (.mv (.t p3)) [] 4,
  .mk (some p23) (some (p21, true)) (.mv (.t p0)) [] 5,
  .mk (some p24) (some (p21, true)) (.mv (.t p9)) [] 6,
  .mk (some p25) (some (p21, true)) (.iaddr 3 (.t p23) (.t p24)) [] 7,
  .mk (some p26) (some (p21, true)) (.load 3 true (.t p25)) [] 8,
  .mk (some p27) (some (p21, true)) (.mv (.t p0)) [] 9,
  .mk (some p28) (some (p21, true)) (.mv (.t p9)) [] 10,
  .mk (some p29) (some (p21, true)) (.bin .sub .num (.t p28) (.c (.int .i64 1))) [] 11,
  .mk (some p30) (some (p21, true)) (.iaddr 3 (.t p27) (.t p29)) [] 12,
  .mk (some p31) (some (p21, true)) (.load 3 true (.t p30)) [] 13,
  .mk (some p32) (some (p21, true)) (.call (.t p22) [(.t p26), (.t p31)]) [] 14,
  .mk (some p33) (some (p21, true)) (.bin .lss .num (.t p32) (.c (.int .i64 0))) [] 15,
  .mk (some p34) none (.pick (.t p21) (.t p33) (.c (.bool false))) [] 16] true
def c171_4 : CC := .reg [
  .mk (some p37) none (.mv (.t p0)) [] 0,
  .mk (some p38) none (.mv (.t p9)) [] 1,
  .mk (some p39) none (.mv (.t p0)) [] 2,
  .mk (some p40) none (.mv (.t p9)) [] 3,
  .mk (some p41) none (.bin .sub .num (.t p40) (.c (.int .i64 1))) [] 4,
  .mk (some p42) none (.mv (.t p0)) [] 5,
  .mk (some p43) none (.mv (.t p9)) [] 6,
  .mk (some p44) none (.bin .sub .num (.t p43) (.c (.int .i64 1))) [] 7,
  .mk (some p45) none (.iaddr 3 (.t p42) (.t p44)) [] 8,
  .mk (some p46) none (.load 3 true (.t p45)) [] 9,
  .mk (some p47) none (.mv (.t p0)) [] 10,
  .mk (some p48) none (.mv (.t p9)) [] 11,
  .mk (some p49) none (.iaddr 3 (.t p47) (.t p48)) [] 12,
  .mk (some p50) none (.load 3 true (.t p49)) [] 13,
  .mk (some p51) none (.iaddr 3 (.t p37) (.t p38)) [] 14,
  .mk none none (.store 3 (.t p51) (.t p46)) [] 15,
  .mk (some p52) none (.iaddr 3 (.t p39) (.t p41)) [] 16,
  .mk none none (.store 3 (.t p52) (.t p50)) [] 17] true
def c171_5 : CC := .reg [
  .mk (some p35) none (.mv (.t p9)) [] 0,
  .mk (some p36) none (.bin .sub .num (.t p35) (.c (.int .i64 1))) [] 1,
  .mk (some p9) none (.mv (.t p36)) [] 2] false
def c171_6 : CC := .loop (.seq (.seq c171_3 (.cond (.t p34) .skip (.exit 2))) (.seq (.blk 3 c171_4) c171_5))
def c171_7 : CC := .reg [
  .mk (some p15) none (.mv (.t p8)) [] 0,
  .mk (some p16) none (.bin .add .num (.t p15) (.c (.int .i64 1))) [] 1,
  .mk (some p8) none (.mv (.t p16)) [] 2] false
def c171_8 : CC := .loop (.seq (.seq c171_1 (.cond (.t p14) .skip (.exit 0))) (.seq (.blk 1 (.seq c171_2 (.blk 2 c171_6))) c171_7))
def F171 : CF := .mk 53 [p0, p1, p2, p3] 6 (.seq c171_0 (.blk 0 c171_8)) [] 0
/- slices.heapSortCmpFunc[daybook/api.Branch] -/
def c172_0 : CC := .reg [
  .mk (some p13) none (.mv (.t p1)) [] 0,
  .mk (some p8) none (.mv (.t p13)) [] 1] false
def c172_1 : CC := .reg [
  .mk (some p9) none (.mv (.c (.int .i64 0))) [] 0] false
def c172_2 : CC := .reg [
  .mk (some p14) none (.mv (.t p2)) [] 0,
  .mk (some p15) none (.mv (.t p1)) [] 1,
  .mk (some p16) none (.bin .sub .num (.t p14) (.t p15)) [] 2,
  .mk (some p10) none (.mv (.t p16)) [] 3] false
def c172_3 : CC := .reg [
  .mk (some p17) none (.mv (.t p10)) [] 0,
  .mk (some p18) none (.bin .sub .num (.t p17) (.c (.int .i64 1))) [] 1,
  .mk (some p19) none (.bin .quo .num (.t p18) (.c (.int .i64 2))) [] 2,
  .mk (some p11) none (.mv (.t p19)) [] 3] false
def c172_4 : CC := .reg [
  .mk (some p20) none (.mv (.t p11)) [] 0,
  .mk (some p21) none (.bin .geq .num (.t p20) (.c (.int .i64 0))) [] 1] false
def c172_5 : CC := .reg [
  .mk (some p24) none (.mv (.t p0)) [] 0,
  .mk (some p25) none (.mv (.t p11)) [] 1,
  .mk (some p26) none (.mv (.t p10)) [] 2,
  .mk (some p27) none (.mv (.t p8)) [] 3,
  .mk (some p28) none (.mv (.t p3)) [] 4,
  .mk (some p29) none (.call (.c (.fn 201 [])) [(.t p24), (.t p25), (.t p26), (.t p27), (.t p28)]) [] 5] false
def c172_6 : CC := .reg [
  .mk (some p22) none (.mv (.t p11)) [] 0,
  .mk (some p23) none (.bin .sub .num (.t p22) (.c (.int .i64 1))) [] 1,
  .mk (some p11) none (.mv (.t p23)) [] 2] false
def c172_7 : CC := .loop (.seq (.seq c172_4 (.cond (.t p21) .skip (.exit 0))) (.seq (.blk 1 c172_5) c172_6))
def c172_8 : CC := .reg [
  .mk (some p30) none (.mv (.t p10)) [] 0,
  .mk (some p31) none (.bin .sub .num (.t p30) (.c (.int .i64 1))) [] 1,
  .mk (some p12) none (.mv (.t p31)) [] 2] false
def c172_9 : CC := .reg [
  .mk (some p32) none (.mv (.t p12)) [] 0,
  .mk (some p33) none (.bin .geq .num (.t p32) (.c (.int .i64 0))) [] 1] false
def c172_10 : CC := .reg [
  .mk (some p36) none (.mv (.t p0)) [] 0,
  .mk (some p37) none (.mv (.t p8)) [] 1,
  .mk (some p38) none (.mv (.t p0)) [] 2,
  .mk (some p39) none (.mv (.t p8)) [] 3,
  .mk (some p40) none (.mv (.t p12)) [] 4,
  .mk (some p41) none (.bin .add .num (.t p39) (.t p40)) [] 5,
  .mk (some p42) none (.mv (.t p0)) [] 6,
  .mk (some p43) none (.mv (.t p8)) [] 7,
  .mk (some p44) none (.mv (.t p12)) [] 8,
  .mk (some p45) none (.bin .add .num (.t p43) (.t p44)) [] 9,
  .mk (some p46) none (.iaddr 3 (.t p42) (.t p45)) [] 10,
  .mk (some p47) none (.load 3 true (.t p46)) [] 11,
  .mk (some p48) none (.mv (.t p0)) [] 12,
  .mk (some p49) none (.mv (.t p8)) [] 13,
  .mk (some p50) none (.iaddr 3 (.t p48) (.t p49)) [] 14,
  .mk (some p51) none (.load 3 true (.t p50)) [] 15,
  .mk (some p52) none (.iaddr 3 (.t p36) (.t p37)) [] 16,
  .mk none none (.store 3 (.t p52) (.t p47)) [] 17,
  .mk (some p53) none (.iaddr 3 (.t p38) (.t p41)) [] 18,
  .mk none none (.store 3 (.t p53) (.t p51)) [] 19] true
def c172_11 : CC := .reg [
  .mk (some p54) none (.mv (.t p0)) [] 0,
  .mk (some p55) none (.mv (.t p9)) [] 1,
  .mk (some p56) none (.mv (.t p12)) [] 2,
  .mk (some p57) none (.mv (.t p8)) [] 3,
  .mk (some p58) none (.mv (.t p3)) [] 4,
  .mk (some p59) none (.call (.c (.fn 201 [])) [(.t p54), (.t p55), (.t p56), (.t p57), (.t p58)]) [] 5] false
def c172_12 : CC := .reg [
  .mk (some p34) none (.mv (.t p12)) [] 0,
  .mk (some p35) none (.bin .sub .num (.t p34) (.c (.int .i64 1))) [] 1,
  .mk (some p12) none (.mv (.t p35)) [] 2] false
def c172_13 : CC := .loop (.seq (.seq c172_9 (.cond (.t p33) .skip (.exit 2))) (.seq (.blk 3 (.seq c172_10 c172_11)) c172_12))
def F172 : CF := .mk 60 [p0, p1, p2, p3] 6 (.seq c172_0 (.seq c172_1 (.seq c172_2 (.seq (.seq c172_3 (.blk 0 c172_7)) (.seq c172_8 (.blk 2 c172_13)))))) [] 0
/- slices.breakPatternsCmpFunc[daybook/api.Branch] -/
def c173_0 : CC := .reg [
  .mk (some p13) none (.mv (.t p2)) [] 0,
  .mk (some p14) none (.mv (.t p1)) [] 1,
  .mk (some p15) none (.bin .sub .num (.t p13) (.t p14)) [] 2,
  .mk (some p8) none (.mv (.t p15)) [] 3] false
def c173_1 : CC := .reg [
  .mk (some p16) none (.mv (.t p8)) [] 0,
  .mk (some p17) none (.bin .geq .num (.t p16) (.c (.int .i64 8))) [] 1] false
def c173_2 : CC := .reg [
  .mk (some p18) none (.mv (.t p8)) [] 0,
  .mk (some p19) none (.toint .u64 (.t p18)) [] 1,
  .mk (some p9) none (.alloc 259 [(.int .u64 0)]) [] 2,
  .mk none none (.store 1 (.t p9) (.t p19)) [] 3] false
def c173_3 : CC := .reg [
  .mk (some p20) none (.mv (.t p8)) [] 0,
  .mk (some p21) none (.call (.c (.fn 202 [])) [(.t p20)]) [] 1,
  .mk (some p10) none (.mv (.t p21)) [] 2] false
def c173_4 : CC := .reg [
  .mk (some p22) none (.mv (.t p1)) [] 0,
  .mk (some p23) none (.mv (.t p8)) [] 1,
  .mk (some p24) none (.bin .quo .num (.t p23) (.c (.int .i64 4))) [] 2,
  .mk (some p25) none (.bin .mul .num (.t p24) (.c (.int .i64 2))) [] 3,
  .mk (some p26) none (.bin .add .num (.t p22) (.t p25)) [] 4,
  .mk (some p27) none (.bin .sub .num (.t p26) (.c (.int .i64 1))) [] 5,
  .mk (some p11) none (.mv (.t p27)) [] 6] false
def c173_5 : CC := .reg [
  .mk (some p28) none (.mv (.t p11)) [] 0,
  .mk (some p29) none (.mv (.t p1)) [] 1,
  .mk (some p30) none (.mv (.t p8)) [] 2,
  .mk (some p31) none (.bin .quo .num (.t p30) (.c (.int .i64 4))) [] 3,
  .mk (some p32) none (.bin .mul .num (.t p31) (.c (.int .i64 2))) [] 4,
  .mk (some p33) none (.bin .add .num (.t p29) (.t p32)) [] 5,
  .mk (some p34) none (.bin .add .num (.t p33) (.c (.int .i64 1))) [] 6,
  .mk (some p35) none (.bin .leq .num (.t p28) (.t p34)) [] 7] false
def c173_6 : CC := .reg [
  .mk (some p38) none (.call (.c (.fn 203 [])) [(.t p9)]) [] 0,
  .mk (some p39) none (.mv (.t p10)) [] 1,
  .mk (some p40) none (.bin .sub .num (.t p39) (.c (.int .u64 1))) [] 2,
  .mk (some p41) none (.bin .and .num (.t p38) (.t p40)) [] 3,
  .mk (some p42) none (.toint .i64 (.t p41)) [] 4,
  .mk (some p12) none (.mv (.t p42)) [] 5] false
def c173_7 : CC := .reg [
  .mk (some p43) none (.mv (.t p12)) [] 0,
  .mk (some p44) none (.mv (.t p8)) [] 1,
  .mk (some p45) none (.bin .geq .num (.t p43) (.t p44)) [] 2] false
def c173_8 : CC := .reg [
  .mk (some p46) none (.mv (.t p12)) [] 0,
  .mk (some p47) none (.mv (.t p8)) [] 1,
  .mk (some p48) none (.bin .sub .num (.t p46) (.t p47)) [] 2,
  .mk (some p12) none (.mv (.t p48)) [] 3] false
def c173_9 : CC := .reg [
  .mk (some p49) none (.mv (.t p0)) [] 0,
  .mk (some p50) none (.mv (.t p11)) [] 1,
  .mk (some p51) none (.mv (.t p0)) [] 2,
  .mk (some p52) none (.mv (.t p1)) [] 3,
  .mk (some p53) none (.mv (.t p12)) [] 4,
  .mk (some p54) none (.bin .add .num (.t p52) (.t p53)) [] 5,
  .mk (some p55) none (.mv (.t p0)) [] 6,
  .mk (some p56) none (.mv (.t p1)) [] 7,
  .mk (some p57) none (.mv (.t p12)) [] 8,
  .mk (some p58) none (.bin .add .num (.t p56) (.t p57)) [] 9,
  .mk (some p59) none (.iaddr 3 (.t p55) (.t p58)) [] 10,
  .mk (some p60) none (.load 3 true (.t p59)) [] 11,
  .mk (some p61) none (.mv (.t p0)) [] 12,
  .mk (some p62) none (.mv (.t p11)) [] 13,
  .mk (some p63) none (.iaddr 3 (.t p61) (.t p62)) [] 14,
  .mk (some p64) none (.load 3 true (.t p63)) [] 15,
  .mk (some p65) none (.iaddr 3 (.t p49) (.t p50)) [] 16,
  .mk none none (.store 3 (.t p65) (.t p60)) [] 17,
  .mk (some p66) none (.iaddr 3 (.t p51) (.t p54)) [] 18,
  .mk none none (.store 3 (.t p66) (.t p64)) [] 19] true
def c173_10 : CC := .reg [
  .mk (some p36) none (.mv (.t p11)) [] 0,
  .mk (some p37) none (.bin .add .num (.t p36) (.c (.int .i64 1))) [] 1,
  .mk (some p11) none (.mv (.t p37)) [] 2] false
def c173_11 : CC := .loop (.seq (.seq c173_5 (.cond (.t p35) .skip (.exit 0))) (.seq (.blk 1 (.seq c173_6 (.seq (.seq c173_7 (.cond (.t p45) c173_8 .skip)) c173_9))) c173_10))
def F173 : CF := .mk 67 [p0, p1, p2, p3] 7 (.seq c173_0 (.seq c173_1 (.cond (.t p17) (.seq c173_2 (.seq c173_3 (.seq c173_4 (.blk 0 c173_11)))) .skip))) [] 0
/- slices.choosePivotCmpFunc[daybook/api.Branch] -/
def c174_0 : CC := .reg [
  .mk (some p8) none (.mv (.c (.int .i64 0))) [] 0,
  .mk (some p9) none (.mv (.c (.int .i64 0))) [] 1] false
def c174_1 : CC := .reg [
  .mk (some p15) none (.mv (.t p2)) [] 0,
  .mk (some p16) none (.mv (.t p1)) [] 1,
  .mk (some p17) none (.bin .sub .num (.t p15) (.t p16)) [] 2,
  .mk (some p10) none (.mv (.t p17)) [] 3] false
def c174_2 : CC := .reg [
  .mk (some p11) none (.alloc 3 [(.int .i64 0)]) [] 0] false
def c174_3 : CC := .reg [
  .mk (some p18) none (.mv (.t p1)) [] 0,
  .mk (some p19) none (.mv (.t p10)) [] 1,
  .mk (some p20) none (.bin .quo .num (.t p19) (.c (.int .i64 4))) [] 2,
  .mk (some p21) none (.bin .mul .num (.t p20) (.c (.int .i64 1))) [] 3,
  .mk (some p22) none (.bin .add .num (.t p18) (.t p21)) [] 4,
  .mk (some p12) none (.mv (.t p22)) [] 5] false
def c174_4 : CC := .reg [
  .mk (some p23) none (.mv (.t p1)) [] 0,
  .mk (some p24) none (.mv (.t p10)) [] 1,
  .mk (some p25) none (.bin .quo .num (.t p24) (.c (.int .i64 4))) [] 2,
  .mk (some p26) none (.bin .mul .num (.t p25) (.c (.int .i64 2))) [] 3,
  .mk (some p27) none (.bin .add .num (.t p23) (.t p26)) [] 4,
  .mk (some p13) none (.mv (.t p27)) [] 5] false
def c174_5 : CC := .reg [
  .mk (some p28) none (.mv (.t p1)) [] 0,
  .mk (some p29) none (.mv (.t p10)) [] 1,
  .mk (some p30) none (.bin .quo .num (.t p29) (.c (.int .i64 4))) [] 2,
  .mk (some p31) none (.bin .mul .num (.t p30) (.c (.int .i64 3))) [] 3,
  .mk (some p32) none (.bin .add .num (.t p28) (.t p31)) [] 4,
  .mk (some p14) none (.mv (.t p32)) [] 5] false
def c174_6 : CC := .reg [
  .mk (some p33) none (.mv (.t p10)) [] 0,
  .mk (some p34) none (.bin .geq .num (.t p33) (.c (.int .i64 8))) [] 1] false
def c174_7 : CC := .reg [
  .mk (some p35) none (.mv (.t p10)) [] 0,
  .mk (some p36) none (.bin .geq .num (.t p35) (.c (.int .i64 50))) [] 1] false
def c174_8 : CC := .reg [
  .mk (some p37) none (.mv (.t p0)) [] 0,
  .mk (some p38) none (.mv (.t p12)) [] 1,
  .mk (some p39) none (.mv (.t p3)) [] 2,
  .mk (some p40) none (.call (.c (.fn 204 [])) [(.t p37), (.t p38), (.t p11), (.t p39)]) [] 3,
  .mk (some p12) none (.mv (.t p40)) [] 4] false
def c174_9 : CC := .reg [
  .mk (some p41) none (.mv (.t p0)) [] 0,
  .mk (some p42) none (.mv (.t p13)) [] 1,
  .mk (some p43) none (.mv (.t p3)) [] 2,
  .mk (some p44) none (.call (.c (.fn 204 [])) [(.t p41), (.t p42), (.t p11), (.t p43)]) [] 3,
  .mk (some p13) none (.mv (.t p44)) [] 4] false
def c174_10 : CC := .reg [
  .mk (some p45) none (.mv (.t p0)) [] 0,
  .mk (some p46) none (.mv (.t p14)) [] 1,
  .mk (some p47) none (.mv (.t p3)) [] 2,
  .mk (some p48) none (.call (.c (.fn 204 [])) [(.t p45), (.t p46), (.t p11), (.t p47)]) [] 3,
  .mk (some p14) none (.mv (.t p48)) [] 4] false
def c174_11 : CC := .reg [
  .mk (some p49) none (.mv (.t p0)) [] 0,
  .mk (some p50) none (.mv (.t p12)) [] 1,
  .mk (some p51) none (.mv (.t p13)) [] 2,
  .mk (some p52) none (.mv (.t p14)) [] 3,
  .mk (some p53) none (.mv (.t p3)) [] 4,
  .mk (some p54) none (.call (.c (.fn 205 [])) [(.t p49), (.t p50), (.t p51), (.t p52), (.t p11), (.t p53)]) [] 5,
  .mk (some p13) none (.mv (.t p54)) [] 6] false
def c174_12 : CC := .reg [
  .mk (some p55) none (.load 1 false (.t p11)) [] 0] false
def c174_13 : CC := .reg [
  .mk (some p58) none (.bin .eql .num (.t p55) (.c (.int .i64 0))) [] 0,
  .mk (some p57) none (.mv (.t p58)) [] 1] false
def c174_14 : CC := .reg [
  .mk (some p59) none (.mv (.t p13)) [] 0,
  .mk (some p8) none (.mv (.t p59)) [] 1,
  .mk (some p9) none (.mv (.c (.int .i64 1))) [] 2] false
def c174_15 : CC := .reg [
  .mk (some p61) none (.bin .eql .num (.t p55) (.c (.int .i64 12))) [] 0,
  .mk (some p60) none (.mv (.t p61)) [] 1] false
def c174_16 : CC := .reg [
  .mk (some p62) none (.mv (.t p13)) [] 0,
  .mk (some p8) none (.mv (.t p62)) [] 1,
  .mk (some p9) none (.mv (.c (.int .i64 2))) [] 2] false
def c174_17 : CC := .reg [
  .mk (some p56) none (.mv (.t p13)) [] 0,
  .mk (some p8) none (.mv (.t p56)) [] 1,
  .mk (some p9) none (.mv (.c (.int .i64 0))) [] 2] false
def F174 : CF := .mk 63 [p0, p1, p2, p3] 6 (.seq c174_0 (.seq c174_1 (.seq c174_2 (.seq c174_3 (.seq c174_4 (.seq c174_5 (.seq (.seq c174_6 (.cond (.t p34) (.seq (.seq c174_7 (.cond (.t p36) (.seq c174_8 (.seq c174_9 c174_10)) .skip)) c174_11) .skip)) (.seq c174_12 (.blk 0 (.seq c174_13 (.cond (.t p57) (.seq c174_14 .ret) (.seq c174_15 (.cond (.t p60) (.seq c174_16 .ret) (.seq c174_17 .ret)))))))))))))) [.t p8, .t p9] 0
/- slices.reverseRangeCmpFunc[daybook/api.Branch] -/
def c175_0 : CC := .reg [
  .mk (some p10) none (.mv (.t p1)) [] 0,
  .mk (some p8) none (.mv (.t p10)) [] 1] false
def c175_1 : CC := .reg [
  .mk (some p11) none (.mv (.t p2)) [] 0,
  .mk (some p12) none (.bin .sub .num (.t p11) (.c (.int .i64 1))) [] 1,
  .mk (some p9) none (.mv (.t p12)) [] 2] false
def c175_2 : CC := .reg [
  .mk (some p13) none (.mv (.t p8)) [] 0,
  .mk (some p14) none (.mv (.t p9)) [] 1,
  .mk (some p15) none (.bin .lss .num (.t p13) (.t p14)) [] 2] false
def c175_3 : CC := .reg [
  .mk (some p16) none (.mv (.t p0)) [] 0,
  .mk (some p17) none (.mv (.t p8)) [] 1,
  .mk (some p18) none (.mv (.t p0)) [] 2,
  .mk (some p19) none (.mv (.t p9)) [] 3,
  .mk (some p20) none (.mv (.t p0)) [] 4,
  .mk (some p21) none (.mv (.t p9)) [] 5,
  .mk (some p22) none (.iaddr 3 (.t p20) (.t p21)) [] 6,
  .mk (some p23) none (.load 3 true (.t p22)) [] 7,
  .mk (some p24) none (.mv (.t p0)) [] 8,
  .mk (some p25) none (.mv (.t p8)) [] 9,
  .mk (some p26) none (.iaddr 3 (.t p24) (.t p25)) [] 10,
  .mk (some p27) none (.load 3 true (.t p26)) [] 11,
  .mk (some p28) none (.iaddr 3 (.t p16) (.t p17)) [] 12,
  .mk none none (.store 3 (.t p28) (.t p23)) [] 13,
  .mk (some p29) none (.iaddr 3 (.t p18) (.t p19)) [] 14,
  .mk none none (.store 3 (.t p29) (.t p27)) [] 15] true
def c175_4 : CC := .reg [
  .mk (some p30) none (.mv (.t p8)) [] 0,
  .mk (some p31) none (.bin .add .num (.t p30) (.c (.int .i64 1))) [] 1,
  .mk (some p8) none (.mv (.t p31)) [] 2] false
def c175_5 : CC := .reg [
  .mk (some p32) none (.mv (.t p9)) [] 0,
  .mk (some p33) none (.bin .sub .num (.t p32) (.c (.int .i64 1))) [] 1,
  .mk (some p9) none (.mv (.t p33)) [] 2] false
def c175_6 : CC := .loop (.seq (.seq c175_2 (.cond (.t p15) .skip (.exit 0))) (.blk 1 (.seq c175_3 (.seq c175_4 c175_5))))
def F175 : CF := .mk 34 [p0, p1, p2, p3] 6 (.seq c175_0 (.seq c175_1 (.blk 0 c175_6))) [] 0
/- slices.partialInsertionSortCmpFunc[daybook/api.Branch] -/
def c176_0 : CC := .reg [
  .mk (some p8) none (.mv (.c (.bool false))) [] 0] false
def c176_1 : CC := .reg [
  .mk (some p13) none (.mv (.t p1)) [] 0,
  .mk (some p14) none (.bin .add .num (.t p13) (.c (.int .i64 1))) [] 1,
  .mk (some p9) none (.mv (.t p14)) [] 2] false
def c176_2 : CC := .reg [
  .mk (some p10) none (.mv (.c (.int .i64 0))) [] 0] false
def c176_3 : CC := .reg [
  .mk (some p15) none (.mv (.t p10)) [] 0,
  .mk (some p16) none (.bin .lss .num (.t p15) (.c (.int .i64 5))) [] 1] false
def c176_4 : CC := .reg [
  .mk (some p19) none (.mv (.t p9)) [] 0,
  .mk (some p20) none (.mv (.t p2)) [] 1,
  .mk (some p21) none (.bin .lss .num (.t p19) (.t p20)) [] 2,
  .mk (some p22) none (.mv (.t p21)) [] 3,
  .mk (some p23) (some (p22, true)) (.mv (.t p3)) [] 4,
  .mk (some p24) (some (p22, true)) (.mv (.t p0)) [] 5,
  .mk (some p25) (some (p22, true)) (.mv (.t p9)) [] 6,
  .mk (some p26) (some (p22, true)) (.iaddr 3 (.t p24) (.t p25)) [] 7,
  .mk (some p27) (some (p22, true)) (.load 3 true (.t p26)) [] 8,
  .mk (some p28) (some (p22, true)) (.mv (.t p0)) [] 9,
  .mk (some p29) (some (p22, true)) (.mv (.t p9)) [] 10,
  .mk (some p30) (some (p22, true)) (.bin .sub .num (.t p29) (.c (.int .i64 1))) [] 11,
  .mk (some p31) (some (p22, true)) (.iaddr 3 (.t p28) (.t p30)) [] 12,
  .mk (some p32) (some (p22, true)) (.load 3 true (.t p31)) [] 13,
  .mk (some p33) (some (p22, true)) (.call (.t p23) [(.t p27), (.t p32)]) [] 14,
  .mk (some p34) (some (p22, true)) (.bin .lss .num (.t p33) (.c (.int .i64 0))) [] 15,
  .mk (some p35) (some (p22, true)) (.un .not (.t p34)) [] 16,
  .mk (some p36) none (.pick (.t p22) (.t p35) (.c (.bool false))) [] 17] true
def c176_5 : CC := .reg [
  .mk (some p37) none (.mv (.t p9)) [] 0,
  .mk (some p38) none (.bin .add .num (.t p37) (.c (.int .i64 1))) [] 1,
  .mk (some p9) none (.mv (.t p38)) [] 2] false
def c176_6 : CC := .loop (.seq (.seq c176_4 (.cond (.t p36) .skip (.exit 2))) (.blk 3 c176_5))
def c176_7 : CC := .reg [
  .mk (some p39) none (.mv (.t p9)) [] 0,
  .mk (some p40) none (.mv (.t p2)) [] 1,
  .mk (some p41) none (.bin .eql .num (.t p39) (.t p40)) [] 2] false
def c176_8 : CC := .reg [
  .mk (some p8) none (.mv (.c (.bool true))) [] 0] false
def c176_9 : CC := .reg [
  .mk (some p42) none (.mv (.t p2)) [] 0,
  .mk (some p43) none (.mv (.t p1)) [] 1,
  .mk (some p44) none (.bin .sub .num (.t p42) (.t p43)) [] 2,
  .mk (some p45) none (.bin .lss .num (.t p44) (.c (.int .i64 50))) [] 3] false
def c176_10 : CC := .reg [
  .mk (some p8) none (.mv (.c (.bool false))) [] 0] false
def c176_11 : CC := .reg [
  .mk (some p46) none (.mv (.t p0)) [] 0,
  .mk (some p47) none (.mv (.t p9)) [] 1,
  .mk (some p48) none (.mv (.t p0)) [] 2,
  .mk (some p49) none (.mv (.t p9)) [] 3,
  .mk (some p50) none (.bin .sub .num (.t p49) (.c (.int .i64 1))) [] 4,
  .mk (some p51) none (.mv (.t p0)) [] 5,
  .mk (some p52) none (.mv (.t p9)) [] 6,
  .mk (some p53) none (.bin .sub .num (.t p52) (.c (.int .i64 1))) [] 7,
  .mk (some p54) none (.iaddr 3 (.t p51) (.t p53)) [] 8,
  .mk (some p55) none (.load 3 true (.t p54)) [] 9,
  .mk (some p56) none (.mv (.t p0)) [] 10,
  .mk (some p57) none (.mv (.t p9)) [] 11,
  .mk (some p58) none (.iaddr 3 (.t p56) (.t p57)) [] 12,
  .mk (some p59) none (.load 3 true (.t p58)) [] 13,
  .mk (some p60) none (.iaddr 3 (.t p46) (.t p47)) [] 14,
  .mk none none (.store 3 (.t p60) (.t p55)) [] 15,
  .mk (some p61) none (.iaddr 3 (.t p48) (.t p50)) [] 16,
  .mk none none (.store 3 (.t p61) (.t p59)) [] 17] true
def c176_12 : CC := .reg [
  .mk (some p62) none (.mv (.t p9)) [] 0,
  .mk (some p63) none (.mv (.t p1)) [] 1,
  .mk (some p64) none (.bin .sub .num (.t p62) (.t p63)) [] 2,
  .mk (some p65) none (.bin .geq .num (.t p64) (.c (.int .i64 2))) [] 3] false
def c176_13 : CC := .reg [
  .mk (some p66) none (.mv (.t p9)) [] 0,
  .mk (some p67) none (.bin .sub .num (.t p66) (.c (.int .i64 1))) [] 1,
  .mk (some p11) none (.mv (.t p67)) [] 2] false
def c176_14 : CC := .reg [
  .mk (some p68) none (.mv (.t p11)) [] 0,
  .mk (some p69) none (.bin .geq .num (.t p68) (.c (.int .i64 1))) [] 1] false
def c176_15 : CC := .reg [
  .mk (some p72) none (.mv (.t p3)) [] 0,
  .mk (some p73) none (.mv (.t p0)) [] 1,
  .mk (some p74) none (.mv (.t p11)) [] 2,
  .mk (some p75) none (.iaddr 3 (.t p73) (.t p74)) [] 3,
  .mk (some p76) none (.load 3 true (.t p75)) [] 4,
  .mk (some p77) none (.mv (.t p0)) [] 5,
  .mk (some p78) none (.mv (.t p11)) [] 6,
  .mk (some p79) none (.bin .sub .num (.t p78) (.c (.int .i64 1))) [] 7,
  .mk (some p80) none (.iaddr 3 (.t p77) (.t p79)) [] 8,
  .mk (some p81) none (.load 3 true (.t p80)) [] 9,
  .mk (some p82) none (.call (.t p72) [(.t p76), (.t p81)]) [] 10,
  .mk (some p83) none (.bin .lss .num (.t p82) (.c (.int .i64 0))) [] 11,
  .mk (some p84) none (.un .not (.t p83)) [] 12] true
def c176_16 : CC := .reg [
  .mk (some p85) none (.mv (.t p0)) [] 0,
  .mk (some p86) none (.mv (.t p11)) [] 1,
  .mk (some p87) none (.mv (.t p0)) [] 2,
  .mk (some p88) none (.mv (.t p11)) [] 3,
  .mk (some p89) none (.bin .sub .num (.t p88) (.c (.int .i64 1))) [] 4,
  .mk (some p90) none (.mv (.t p0)) [] 5,
  .mk (some p91) none (.mv (.t p11)) [] 6,
  .mk (some p92) none (.bin .sub .num (.t p91) (.c (.int .i64 1))) [] 7,
  .mk (some p93) none (.iaddr 3 (.t p90) (.t p92)) [] 8,
  .mk (some p94) none (.load 3 true (.t p93)) [] 9,
  .mk (some p95) none (.mv (.t p0)) [] 10,
  .mk (some p96) none (.mv (.t p11)) [] 11,
  .mk (some p97) none (.iaddr 3 (.t p95) (.t p96)) [] 12,
  .mk (some p98) none (.load 3 true (.t p97)) [] 13,
  .mk (some p99) none (.iaddr 3 (.t p85) (.t p86)) [] 14,
  .mk none none (.store 3 (.t p99) (.t p94)) [] 15,
  .mk (some p100) none (.iaddr 3 (.t p87) (.t p89)) [] 16,
  .mk none none (.store 3 (.t p100) (.t p98)) [] 17] true
def c176_17 : CC := .reg [
  .mk (some p70) none (.mv (.t p11)) [] 0,
  .mk (some p71) none (.bin .sub .num (.t p70) (.c (.int .i64 1))) [] 1,
  .mk (some p11) none (.mv (.t p71)) [] 2] false
def c176_18 : CC := .loop (.seq (.seq c176_14 (.cond (.t p69) .skip (.exit 4))) (.seq (.blk 5 (.seq (.seq c176_15 (.cond (.t p84) (.exit 4) .skip)) c176_16)) c176_17))
def c176_19 : CC := .reg [
  .mk (some p101) none (.mv (.t p2)) [] 0,
  .mk (some p102) none (.mv (.t p9)) [] 1,
  .mk (some p103) none (.bin .sub .num (.t p101) (.t p102)) [] 2,
  .mk (some p104) none (.bin .geq .num (.t p103) (.c (.int .i64 2))) [] 3] false
def c176_20 : CC := .reg [
  .mk (some p105) none (.mv (.t p9)) [] 0,
  .mk (some p106) none (.bin .add .num (.t p105) (.c (.int .i64 1))) [] 1,
  .mk (some p12) none (.mv (.t p106)) [] 2] false
def c176_21 : CC := .reg [
  .mk (some p107) none (.mv (.t p12)) [] 0,
  .mk (some p108) none (.mv (.t p2)) [] 1,
  .mk (some p109) none (.bin .lss .num (.t p107) (.t p108)) [] 2] false
def c176_22 : CC := .reg [
  .mk (some p112) none (.mv (.t p3)) [] 0,
  .mk (some p113) none (.mv (.t p0)) [] 1,
  .mk (some p114) none (.mv (.t p12)) [] 2,
  .mk (some p115) none (.iaddr 3 (.t p113) (.t p114)) [] 3,
  .mk (some p116) none (.load 3 true (.t p115)) [] 4,
  .mk (some p117) none (.mv (.t p0)) [] 5,
  .mk (some p118) none (.mv (.t p12)) [] 6,
  .mk (some p119) none (.bin .sub .num (.t p118) (.c (.int .i64 1))) [] 7,
  .mk (some p120) none (.iaddr 3 (.t p117) (.t p119)) [] 8,
  .mk (some p121) none (.load 3 true (.t p120)) [] 9,
  .mk (some p122) none (.call (.t p112) [(.t p116), (.t p121)]) [] 10,
  .mk (some p123) none (.bin .lss .num (.t p122) (.c (.int .i64 0))) [] 11,
  .mk (some p124) none (.un .not (.t p123)) [] 12] true
def c176_23 : CC := .reg [
  .mk (some p125) none (.mv (.t p0)) [] 0,
  .mk (some p126) none (.mv (.t p12)) [] 1,
  .mk (some p127) none (.mv (.t p0)) [] 2,
  .mk (some p128) none (.mv (.t p12)) [] 3,
  .mk (some p129) none (.bin .sub .num (.t p128) (.c (.int .i64 1))) [] 4,
  .mk (some p130) none (.mv (.t p0)) [] 5,
  .mk (some p131) none (.mv (.t p12)) [] 6,
  .mk (some p132) none (.bin .sub .num (.t p131) (.c (.int .i64 1))) [] 7,
  .mk (some p133) none (.iaddr 3 (.t p130) (.t p132)) [] 8,
  .mk (some p134) none (.load 3 true (.t p133)) [] 9,
  .mk (some p135) none (.mv (.t p0)) [] 10,
  .mk (some p136) none (.mv (.t p12)) [] 11,
  .mk (some p137) none (.iaddr 3 (.t p135) (.t p136)) [] 12,
  .mk (some p138) none (.load 3 true (.t p137)) [] 13,
  .mk (some p139) none (.iaddr 3 (.t p125) (.t p126)) [] 14,
  .mk none none (.store 3 (.t p139) (.t p134)) [] 15,
  .mk (some p140) none (.iaddr 3 (.t p127) (.t p129)) [] 16,
  .mk none none (.store 3 (.t p140) (.t p138)) [] 17] true
def c176_24 : CC := .reg [
  .mk (some p110) none (.mv (.t p12)) [] 0,
  .mk (some p111) none (.bin .add .num (.t p110) (.c (.int .i64 1))) [] 1,
  .mk (some p12) none (.mv (.t p111)) [] 2] false
def c176_25 : CC := .loop (.seq (.seq c176_21 (.cond (.t p109) .skip (.exit 6))) (.seq (.blk 7 (.seq (.seq c176_22 (.cond (.t p124) (.exit 6) .skip)) c176_23)) c176_24))
def c176_26 : CC := .reg [
  .mk (some p17) none (.mv (.t p10)) [] 0,
  .mk (some p18) none (.bin .add .num (.t p17) (.c (.int .i64 1))) [] 1,
  .mk (some p10) none (.mv (.t p18)) [] 2] false
def c176_27 : CC := .loop (.seq (.seq c176_3 (.cond (.t p16) .skip (.exit 0))) (.seq (.blk 1 (.seq (.blk 2 c176_6) (.seq (.seq c176_7 (.cond (.t p41) (.seq c176_8 .ret) .skip)) (.seq (.seq c176_9 (.cond (.t p45) (.seq c176_10 .ret) .skip)) (.seq c176_11 (.seq (.seq c176_12 (.cond (.t p65) (.seq c176_13 (.blk 4 c176_18)) .skip)) (.seq c176_19 (.cond (.t p104) (.seq c176_20 (.blk 6 c176_25)) .skip)))))))) c176_26))
def c176_28 : CC := .reg [
  .mk (some p8) none (.mv (.c (.bool false))) [] 0] false
def F176 : CF := .mk 141 [p0, p1, p2, p3] 8 (.seq c176_0 (.seq c176_1 (.seq (.seq c176_2 (.blk 0 c176_27)) (.seq c176_28 .ret)))) [.t p8] 0
/- slices.partitionEqualCmpFunc[daybook/api.Branch] -/
def c177_0 : CC := .reg [
  .mk (some p10) none (.mv (.c (.int .i64 0))) [] 0] false
def c177_1 : CC := .reg [
  .mk (some p13) none (.mv (.t p0)) [] 0,
  .mk (some p14) none (.mv (.t p1)) [] 1,
  .mk (some p15) none (.mv (.t p0)) [] 2,
  .mk (some p16) none (.mv (.t p3)) [] 3,
  .mk (some p17) none (.mv (.t p0)) [] 4,
  .mk (some p18) none (.mv (.t p3)) [] 5,
  .mk (some p19) none (.iaddr 3 (.t p17) (.t p18)) [] 6,
  .mk (some p20) none (.load 3 true (.t p19)) [] 7,
  .mk (some p21) none (.mv (.t p0)) [] 8,
  .mk (some p22) none (.mv (.t p1)) [] 9,
  .mk (some p23) none (.iaddr 3 (.t p21) (.t p22)) [] 10,
  .mk (some p24) none (.load 3 true (.t p23)) [] 11,
  .mk (some p25) none (.iaddr 3 (.t p13) (.t p14)) [] 12,
  .mk none none (.store 3 (.t p25) (.t p20)) [] 13,
  .mk (some p26) none (.iaddr 3 (.t p15) (.t p16)) [] 14,
  .mk none none (.store 3 (.t p26) (.t p24)) [] 15] true
def c177_2 : CC := .reg [
  .mk (some p27) none (.mv (.t p1)) [] 0,
  .mk (some p28) none (.bin .add .num (.t p27) (.c (.int .i64 1))) [] 1,
  .mk (some p29) none (.mv (.t p2)) [] 2,
  .mk (some p30) none (.bin .sub .num (.t p29) (.c (.int .i64 1))) [] 3,
  .mk (some p11) none (.mv (.t p28)) [] 4,
  .mk (some p12) none (.mv (.t p30)) [] 5] false
def c177_3 : CC := .reg [
  .mk (some p31) none (.mv (.t p11)) [] 0,
  .mk (some p32) none (.mv (.t p12)) [] 1,
  .mk (some p33) none (.bin .leq .num (.t p31) (.t p32)) [] 2,
  .mk (some p34) none (.mv (.t p33)) [] 3,
  .mk (some p35) (some (p34, true)) (.mv (.t p4)) [] 4,
  .mk (some p36) (some (p34, true)) (.mv (.t p0)) [] 5,
  .mk (some p37) (some (p34, true)) (.mv (.t p1)) [] 6,
  .mk (some p38) (some (p34, true)) (.iaddr 3 (.t p36) (.t p37)) [] 7,
  .mk (some p39) (some (p34, true)) (.load 3 true (.t p38)) [] 8,
  .mk (some p40) (some (p34, true)) (.mv (.t p0)) [] 9,
  .mk (some p41) (some (p34, true)) (.mv (.t p11)) [] 10,
  .mk (some p42) (some (p34, true)) (.iaddr 3 (.t p40) (.t p41)) [] 11,
  .mk (some p43) (some (p34, true)) (.load 3 true (.t p42)) [] 12,
  .mk (some p44) (some (p34, true)) (.call (.t p35) [(.t p39), (.t p43)]) [] 13,
  .mk (some p45) (some (p34, true)) (.bin .lss .num (.t p44) (.c (.int .i64 0))) [] 14,
  .mk (some p46) (some (p34, true)) (.un .not (.t p45)) [] 15,
  .mk (some p47) none (.pick (.t p34) (.t p46) (.c (.bool false))) [] 16] true
def c177_4 : CC := .reg [
  .mk (some p48) none (.mv (.t p11)) [] 0,
  .mk (some p49) none (.bin .add .num (.t p48) (.c (.int .i64 1))) [] 1,
  .mk (some p11) none (.mv (.t p49)) [] 2] false
def c177_5 : CC := .loop (.seq (.seq c177_3 (.cond (.t p47) .skip (.exit 2))) (.blk 3 c177_4))
def c177_6 : CC := .reg [
  .mk (some p50) none (.mv (.t p11)) [] 0,
  .mk (some p51) none (.mv (.t p12)) [] 1,
  .mk (some p52) none (.bin .leq .num (.t p50) (.t p51)) [] 2,
  .mk (some p53) none (.mv (.t p52)) [] 3,
  .mk (some p54) (some (p53, true)) (.mv (.t p4)) [] 4,
  .mk (some p55) (some (p53, true)) (.mv (.t p0)) [] 5,
  .mk (some p56) (some (p53, true)) (.mv (.t p1)) [] 6,
  .mk (some p57) (some (p53, true)) (.iaddr 3 (.t p55) (.t p56)) [] 7,
  .mk (some p58) (some (p53, true)) (.load 3 true (.t p57)) [] 8,
  .mk (some p59) (some (p53, true)) (.mv (.t p0)) [] 9,
  .mk (some p60) (some (p53, true)) (.mv (.t p12)) [] 10,
  .mk (some p61) (some (p53, true)) (.iaddr 3 (.t p59) (.t p60)) [] 11,
  .mk (some p62) (some (p53, true)) (.load 3 true (.t p61)) [] 12,
  .mk (some p63) (some (p53, true)) (.call (.t p54) [(.t p58), (.t p62)]) [] 13,
  .mk (some p64) (some (p53, true)) (.bin .lss .num (.t p63) (.c (.int .i64 0))) [] 14,
  .mk (some p65) none (.pick (.t p53) (.t p64) (.c (.bool false))) [] 15] true
def c177_7 : CC := .reg [
  .mk (some p66) none (.mv (.t p12)) [] 0,
  .mk (some p67) none (.bin .sub .num (.t p66) (.c (.int .i64 1))) [] 1,
  .mk (some p12) none (.mv (.t p67)) [] 2] false
def c177_8 : CC := .loop (.seq (.seq c177_6 (.cond (.t p65) .skip (.exit 4))) (.blk 5 c177_7))
def c177_9 : CC := .reg [
  .mk (some p68) none (.mv (.t p11)) [] 0,
  .mk (some p69) none (.mv (.t p12)) [] 1,
  .mk (some p70) none (.bin .gtr .num (.t p68) (.t p69)) [] 2] false
def c177_10 : CC := .reg [
  .mk (some p71) none (.mv (.t p0)) [] 0,
  .mk (some p72) none (.mv (.t p11)) [] 1,
  .mk (some p73) none (.mv (.t p0)) [] 2,
  .mk (some p74) none (.mv (.t p12)) [] 3,
  .mk (some p75) none (.mv (.t p0)) [] 4,
  .mk (some p76) none (.mv (.t p12)) [] 5,
  .mk (some p77) none (.iaddr 3 (.t p75) (.t p76)) [] 6,
  .mk (some p78) none (.load 3 true (.t p77)) [] 7,
  .mk (some p79) none (.mv (.t p0)) [] 8,
  .mk (some p80) none (.mv (.t p11)) [] 9,
  .mk (some p81) none (.iaddr 3 (.t p79) (.t p80)) [] 10,
  .mk (some p82) none (.load 3 true (.t p81)) [] 11,
  .mk (some p83) none (.iaddr 3 (.t p71) (.t p72)) [] 12,
  .mk none none (.store 3 (.t p83) (.t p78)) [] 13,
  .mk (some p84) none (.iaddr 3 (.t p73) (.t p74)) [] 14,
  .mk none none (.store 3 (.t p84) (.t p82)) [] 15] true
def c177_11 : CC := .reg [
  .mk (some p85) none (.mv (.t p11)) [] 0,
  .mk (some p86) none (.bin .add .num (.t p85) (.c (.int .i64 1))) [] 1,
  .mk (some p11) none (.mv (.t p86)) [] 2] false
def c177_12 : CC := .reg [
  .mk (some p87) none (.mv (.t p12)) [] 0,
  .mk (some p88) none (.bin .sub .num (.t p87) (.c (.int .i64 1))) [] 1,
  .mk (some p12) none (.mv (.t p88)) [] 2] false
def c177_13 : CC := .loop (.blk 1 (.seq (.blk 2 c177_5) (.seq (.blk 4 c177_8) (.seq (.seq c177_9 (.cond (.t p70) (.exit 0) .skip)) (.seq c177_10 (.seq c177_11 c177_12))))))
def c177_14 : CC := .reg [
  .mk (some p89) none (.mv (.t p11)) [] 0,
  .mk (some p10) none (.mv (.t p89)) [] 1] false
def F177 : CF := .mk 90 [p0, p1, p2, p3, p4] 7 (.seq c177_0 (.seq c177_1 (.seq c177_2 (.seq (.blk 0 c177_13) (.seq c177_14 .ret))))) [.t p10] 0
/- slices.partitionCmpFunc[daybook/api.Branch] -/
def c178_0 : CC := .reg [
  .mk (some p10) none (.mv (.c (.int .i64 0))) [] 0,
  .mk (some p11) none (.mv (.c (.bool false))) [] 1] false
def c178_1 : CC := .reg [
  .mk (some p14) none (.mv (.t p0)) [] 0,
  .mk (some p15) none (.mv (.t p1)) [] 1,
  .mk (some p16) none (.mv (.t p0)) [] 2,
  .mk (some p17) none (.mv (.t p3)) [] 3,
  .mk (some p18) none (.mv (.t p0)) [] 4,
  .mk (some p19) none (.mv (.t p3)) [] 5,
  .mk (some p20) none (.iaddr 3 (.t p18) (.t p19)) [] 6,
  .mk (some p21) none (.load 3 true (.t p20)) [] 7,
  .mk (some p22) none (.mv (.t p0)) [] 8,
  .mk (some p23) none (.mv (.t p1)) [] 9,
  .mk (some p24) none (.iaddr 3 (.t p22) (.t p23)) [] 10,
  .mk (some p25) none (.load 3 true (.t p24)) [] 11,
  .mk (some p26) none (.iaddr 3 (.t p14) (.t p15)) [] 12,
  .mk none none (.store 3 (.t p26) (.t p21)) [] 13,
  .mk (some p27) none (.iaddr 3 (.t p16) (.t p17)) [] 14,
  .mk none none (.store 3 (.t p27) (.t p25)) [] 15] true
def c178_2 : CC := .reg [
  .mk (some p28) none (.mv (.t p1)) [] 0,
  .mk (some p29) none (.bin .add .num (.t p28) (.c (.int .i64 1))) [] 1,
  .mk (some p30) none (.mv (.t p2)) [] 2,
  .mk (some p31) none (.bin .sub .num (.t p30) (.c (.int .i64 1))) [] 3,
  .mk (some p12) none (.mv (.t p29)) [] 4,
  .mk (some p13) none (.mv (.t p31)) [] 5] false
def c178_3 : CC := .reg [
  .mk (some p32) none (.mv (.t p12)) [] 0,
  .mk (some p33) none (.mv (.t p13)) [] 1,
  .mk (some p34) none (.bin .leq .num (.t p32) (.t p33)) [] 2,
  .mk (some p35) none (.mv (.t p34)) [] 3,
  .mk (some p36) (some (p35, true)) (.mv (.t p4)) [] 4,
  .mk (some p37) (some (p35, true)) (.mv (.t p0)) [] 5,
  .mk (some p38) (some (p35, true)) (.mv (.t p12)) [] 6,
  .mk (some p39) (some (p35, true)) (.iaddr 3 (.t p37) (.t p38)) [] 7,
  .mk (some p40) (some (p35, true)) (.load 3 true (.t p39)) [] 8,
  .mk (some p41) (some (p35, true)) (.mv (.t p0)) [] 9,
  .mk (some p42) (some (p35, true)) (.mv (.t p1)) [] 10,
  .mk (some p43) (some (p35, true)) (.iaddr 3 (.t p41) (.t p42)) [] 11,
  .mk (some p44) (some (p35, true)) (.load 3 true (.t p43)) [] 12,
  .mk (some p45) (some (p35, true)) (.call (.t p36) [(.t p40), (.t p44)]) [] 13,
  .mk (some p46) (some (p35, true)) (.bin .lss .num (.t p45) (.c (.int .i64 0))) [] 14,
  .mk (some p47) none (.pick (.t p35) (.t p46) (.c (.bool false))) [] 15] true
def c178_4 : CC := .reg [
  .mk (some p48) none (.mv (.t p12)) [] 0,
  .mk (some p49) none (.bin .add .num (.t p48) (.c (.int .i64 1))) [] 1,
  .mk (some p12) none (.mv (.t p49)) [] 2] false
def c178_5 : CC := .loop (.seq (.seq c178_3 (.cond (.t p47) .skip (.exit 0))) (.blk 1 c178_4))
def c178_6 : CC := .reg [
  .mk (some p50) none (.mv (.t p12)) [] 0,
  .mk (some p51) none (.mv (.t p13)) [] 1,
  .mk (some p52) none (.bin .leq .num (.t p50) (.t p51)) [] 2,
  .mk (some p53) none (.mv (.t p52)) [] 3,
  .mk (some p54) (some (p53, true)) (.mv (.t p4)) [] 4,
  .mk (some p55) (some (p53, true)) (.mv (.t p0)) [] 5,
  .mk (some p56) (some (p53, true)) (.mv (.t p13)) [] 6,
  .mk (some p57) (some (p53, true)) (.iaddr 3 (.t p55) (.t p56)) [] 7,
  .mk (some p58) (some (p53, true)) (.load 3 true (.t p57)) [] 8,
  .mk (some p59) (some (p53, true)) (.mv (.t p0)) [] 9,
  .mk (some p60) (some (p53, true)) (.mv (.t p1)) [] 10,
  .mk (some p61) (some (p53, true)) (.iaddr 3 (.t p59) (.t p60)) [] 11,
  .mk (some p62) (some (p53, true)) (.load 3 true (.t p61)) [] 12,
  .mk (some p63) (some (p53, true)) (.call (.t p54) [(.t p58), (.t p62)]) [] 13,
  .mk (some p64) (some (p53, true)) (.bin .lss .num (.t p63) (.c (.int .i64 0))) [] 14,
  .mk (some p65) (some (p53, true)) (.un .not (.t p64)) [] 15,
  .mk (some p66) none (.pick (.t p53) (.t p65) (.c (.bool false))) [] 16] true
def c178_7 : CC := .reg [
  .mk (some p67) none (.mv (.t p13)) [] 0,
  .mk (some p68) none (.bin .sub .num (.t p67) (.c (.int .i64 1))) [] 1,
  .mk (some p13) none (.mv (.t p68)) [] 2] false
def c178_8 : CC := .loop (.seq (.seq c178_6 (.cond (.t p66) .skip (.exit 2))) (.blk 3 c178_7))
def c178_9 : CC := .reg [
  .mk (some p69) none (.mv (.t p12)) [] 0,
  .mk (some p70) none (.mv (.t p13)) [] 1,
  .mk (some p71) none (.bin .gtr .num (.t p69) (.t p70)) [] 2] false
def c178_10 : CC := .reg [
  .mk (some p72) none (.mv (.t p0)) [] 0,
  .mk (some p73) none (.mv (.t p13)) [] 1,
  .mk (some p74) none (.mv (.t p0)) [] 2,
  .mk (some p75) none (.mv (.t p1)) [] 3,
  .mk (some p76) none (.mv (.t p0)) [] 4,
  .mk (some p77) none (.mv (.t p1)) [] 5,
  .mk (some p78) none (.iaddr 3 (.t p76) (.t p77)) [] 6,
  .mk (some p79) none (.load 3 true (.t p78)) [] 7,
  .mk (some p80) none (.mv (.t p0)) [] 8,
  .mk (some p81) none (.mv (.t p13)) [] 9,
  .mk (some p82) none (.iaddr 3 (.t p80) (.t p81)) [] 10,
  .mk (some p83) none (.load 3 true (.t p82)) [] 11,
  .mk (some p84) none (.iaddr 3 (.t p72) (.t p73)) [] 12,
  .mk none none (.store 3 (.t p84) (.t p79)) [] 13,
  .mk (some p85) none (.iaddr 3 (.t p74) (.t p75)) [] 14,
  .mk none none (.store 3 (.t p85) (.t p83)) [] 15] true
def c178_11 : CC := .reg [
  .mk (some p86) none (.mv (.t p13)) [] 0,
  .mk (some p10) none (.mv (.t p86)) [] 1,
  .mk (some p11) none (.mv (.c (.bool true))) [] 2] false
def c178_12 : CC := .reg [
  .mk (some p87) none (.mv (.t p0)) [] 0,
  .mk (some p88) none (.mv (.t p12)) [] 1,
  .mk (some p89) none (.mv (.t p0)) [] 2,
  .mk (some p90) none (.mv (.t p13)) [] 3,
  .mk (some p91) none (.mv (.t p0)) [] 4,
  .mk (some p92) none (.mv (.t p13)) [] 5,
  .mk (some p93) none (.iaddr 3 (.t p91) (.t p92)) [] 6,
  .mk (some p94) none (.load 3 true (.t p93)) [] 7,
  .mk (some p95) none (.mv (.t p0)) [] 8,
  .mk (some p96) none (.mv (.t p12)) [] 9,
  .mk (some p97) none (.iaddr 3 (.t p95) (.t p96)) [] 10,
  .mk (some p98) none (.load 3 true (.t p97)) [] 11,
  .mk (some p99) none (.iaddr 3 (.t p87) (.t p88)) [] 12,
  .mk none none (.store 3 (.t p99) (.t p94)) [] 13,
  .mk (some p100) none (.iaddr 3 (.t p89) (.t p90)) [] 14,
  .mk none none (.store 3 (.t p100) (.t p98)) [] 15] true
def c178_13 : CC := .reg [
  .mk (some p101) none (.mv (.t p12)) [] 0,
  .mk (some p102) none (.bin .add .num (.t p101) (.c (.int .i64 1))) [] 1,
  .mk (some p12) none (.mv (.t p102)) [] 2] false
def c178_14 : CC := .reg [
  .mk (some p103) none (.mv (.t p13)) [] 0,
  .mk (some p104) none (.bin .sub .num (.t p103) (.c (.int .i64 1))) [] 1,
  .mk (some p13) none (.mv (.t p104)) [] 2] false
def c178_15 : CC := .reg [
  .mk (some p105) none (.mv (.t p12)) [] 0,
  .mk (some p106) none (.mv (.t p13)) [] 1,
  .mk (some p107) none (.bin .leq .num (.t p105) (.t p106)) [] 2,
  .mk (some p108) none (.mv (.t p107)) [] 3,
  .mk (some p109) (some (p108, true)) (.mv (.t p4)) [] 4,
  .mk (some p110) (some (p108, true)) (.mv (.t p0)) [] 5,
  .mk (some p111) (some (p108, true)) (.mv (.t p12)) [] 6,
  .mk (some p112) (some (p108, true)) (.iaddr 3 (.t p110) (.t p111)) [] 7,
  .mk (some p113) (some (p108, true)) (.load 3 true (.t p112)) [] 8,
  .mk (some p114) (some (p108, true)) (.mv (.t p0)) [] 9,
  .mk (some p115) (some (p108, true)) (.mv (.t p1)) [] 10,
  .mk (some p116) (some (p108, true)) (.iaddr 3 (.t p114) (.t p115)) [] 11,
  .mk (some p117) (some (p108, true)) (.load 3 true (.t p116)) [] 12,
  .mk (some p118) (some (p108, true)) (.call (.t p109) [(.t p113), (.t p117)]) [] 13,
  .mk (some p119) (some (p108, true)) (.bin .lss .num (.t p118) (.c (.int .i64 0))) [] 14,
  .mk (some p120) none (.pick (.t p108) (.t p119) (.c (.bool false))) [] 15] true
def c178_16 : CC := .reg [
  .mk (some p121) none (.mv (.t p12)) [] 0,
  .mk (some p122) none (.bin .add .num (.t p121) (.c (.int .i64 1))) [] 1,
  .mk (some p12) none (.mv (.t p122)) [] 2] false
def c178_17 : CC := .loop (.seq (.seq c178_15 (.cond (.t p120) .skip (.exit 6))) (.blk 7 c178_16))
def c178_18 : CC := .reg [
  .mk (some p123) none (.mv (.t p12)) [] 0,
  .mk (some p124) none (.mv (.t p13)) [] 1,
  .mk (some p125) none (.bin .leq .num (.t p123) (.t p124)) [] 2,
  .mk (some p126) none (.mv (.t p125)) [] 3,
  .mk (some p127) (some (p126, true)) (.mv (.t p4)) [] 4,
  .mk (some p128) (some (p126, true)) (.mv (.t p0)) [] 5,
  .mk (some p129) (some (p126, true)) (.mv (.t p13)) [] 6,
  .mk (some p130) (some (p126, true)) (.iaddr 3 (.t p128) (.t p129)) [] 7,
  .mk (some p131) (some (p126, true)) (.load 3 true (.t p130)) [] 8,
  .mk (some p132) (some (p126, true)) (.mv (.t p0)) [] 9,
  .mk (some p133) (some (p126, true)) (.mv (.t p1)) [] 10,
  .mk (some p134) (some (p126, true)) (.iaddr 3 (.t p132) (.t p133)) [] 11,
  .mk (some p135) (some (p126, true)) (.load 3 true (.t p134)) [] 12,
  .mk (some p136) (some (p126, true)) (.call (.t p127) [(.t p131), (.t p135)]) [] 13,
  .mk (some p137) (some (p126, true)) (.bin .lss .num (.t p136) (.c (.int .i64 0))) [] 14,
  .mk (some p138) (some (p126, true)) (.un .not (.t p137)) [] 15,
  .mk (some p139) none (.pick (.t p126) (.t p138) (.c (.bool false))) [] 16] true
def c178_19 : CC := .reg [
  .mk (some p140) none (.mv (.t p13)) [] 0,
  .mk (some p141) none (.bin .sub .num (.t p140) (.c (.int .i64 1))) [] 1,
  .mk (some p13) none (.mv (.t p141)) [] 2] false
def c178_20 : CC := .loop (.seq (.seq c178_18 (.cond (.t p139) .skip (.exit 8))) (.blk 9 c178_19))
def c178_21 : CC := .reg [
  .mk (some p142) none (.mv (.t p12)) [] 0,
  .mk (some p143) none (.mv (.t p13)) [] 1,
  .mk (some p144) none (.bin .gtr .num (.t p142) (.t p143)) [] 2] false
def c178_22 : CC := .reg [
  .mk (some p145) none (.mv (.t p0)) [] 0,
  .mk (some p146) none (.mv (.t p12)) [] 1,
  .mk (some p147) none (.mv (.t p0)) [] 2,
  .mk (some p148) none (.mv (.t p13)) [] 3,
  .mk (some p149) none (.mv (.t p0)) [] 4,
  .mk (some p150) none (.mv (.t p13)) [] 5,
  .mk (some p151) none (.iaddr 3 (.t p149) (.t p150)) [] 6,
  .mk (some p152) none (.load 3 true (.t p151)) [] 7,
  .mk (some p153) none (.mv (.t p0)) [] 8,
  .mk (some p154) none (.mv (.t p12)) [] 9,
  .mk (some p155) none (.iaddr 3 (.t p153) (.t p154)) [] 10,
  .mk (some p156) none (.load 3 true (.t p155)) [] 11,
  .mk (some p157) none (.iaddr 3 (.t p145) (.t p146)) [] 12,
  .mk none none (.store 3 (.t p157) (.t p152)) [] 13,
  .mk (some p158) none (.iaddr 3 (.t p147) (.t p148)) [] 14,
  .mk none none (.store 3 (.t p158) (.t p156)) [] 15] true
def c178_23 : CC := .reg [
  .mk (some p159) none (.mv (.t p12)) [] 0,
  .mk (some p160) none (.bin .add .num (.t p159) (.c (.int .i64 1))) [] 1,
  .mk (some p12) none (.mv (.t p160)) [] 2] false
def c178_24 : CC := .reg [
  .mk (some p161) none (.mv (.t p13)) [] 0,
  .mk (some p162) none (.bin .sub .num (.t p161) (.c (.int .i64 1))) [] 1,
  .mk (some p13) none (.mv (.t p162)) [] 2] false
def c178_25 : CC := .loop (.blk 5 (.seq (.blk 6 c178_17) (.seq (.blk 8 c178_20) (.seq (.seq c178_21 (.cond (.t p144) (.exit 4) .skip)) (.seq c178_22 (.seq c178_23 c178_24))))))
def c178_26 : CC := .reg [
  .mk (some p163) none (.mv (.t p0)) [] 0,
  .mk (some p164) none (.mv (.t p13)) [] 1,
  .mk (some p165) none (.mv (.t p0)) [] 2,
  .mk (some p166) none (.mv (.t p1)) [] 3,
  .mk (some p167) none (.mv (.t p0)) [] 4,
  .mk (some p168) none (.mv (.t p1)) [] 5,
  .mk (some p169) none (.iaddr 3 (.t p167) (.t p168)) [] 6,
  .mk (some p170) none (.load 3 true (.t p169)) [] 7,
  .mk (some p171) none (.mv (.t p0)) [] 8,
  .mk (some p172) none (.mv (.t p13)) [] 9,
  .mk (some p173) none (.iaddr 3 (.t p171) (.t p172)) [] 10,
  .mk (some p174) none (.load 3 true (.t p173)) [] 11,
  .mk (some p175) none (.iaddr 3 (.t p163) (.t p164)) [] 12,
  .mk none none (.store 3 (.t p175) (.t p170)) [] 13,
  .mk (some p176) none (.iaddr 3 (.t p165) (.t p166)) [] 14,
  .mk none none (.store 3 (.t p176) (.t p174)) [] 15] true
def c178_27 : CC := .reg [
  .mk (some p177) none (.mv (.t p13)) [] 0,
  .mk (some p10) none (.mv (.t p177)) [] 1,
  .mk (some p11) none (.mv (.c (.bool false))) [] 2] false
def F178 : CF := .mk 178 [p0, p1, p2, p3, p4] 8 (.seq c178_0 (.seq c178_1 (.seq c178_2 (.seq (.blk 0 c178_5) (.seq (.blk 2 c178_8) (.seq (.seq c178_9 (.cond (.t p71) (.seq c178_10 (.seq c178_11 .ret)) .skip)) (.seq c178_12 (.seq c178_13 (.seq c178_14 (.seq (.blk 4 c178_25) (.seq c178_26 (.seq c178_27 .ret)))))))))))) [.t p10, .t p11] 0
/- math/bits.Len32 -/
def c179_0 : CC := .reg [
  .mk (some p2) none (.mv (.c (.int .i64 0))) [] 0] false
def c179_1 : CC := .reg [
  .mk (some p3) none (.mv (.t p0)) [] 0,
  .mk (some p4) none (.bin .geq .num (.t p3) (.c (.int .u32 65536))) [] 1] false
def c179_2 : CC := .reg [
  .mk (some p5) none (.mv (.t p0)) [] 0,
  .mk (some p6) none (.bin .shr .num (.t p5) (.c (.int .u64 16))) [] 1,
  .mk (some p0) none (.mv (.t p6)) [] 2] false
def c179_3 : CC := .reg [
  .mk (some p2) none (.mv (.c (.int .i64 16))) [] 0] false
def c179_4 : CC := .reg [
  .mk (some p7) none (.mv (.t p0)) [] 0,
  .mk (some p8) none (.bin .geq .num (.t p7) (.c (.int .u32 256))) [] 1] false
def c179_5 : CC := .reg [
  .mk (some p9) none (.mv (.t p0)) [] 0,
  .mk (some p10) none (.bin .shr .num (.t p9) (.c (.int .u64 8))) [] 1,
  .mk (some p0) none (.mv (.t p10)) [] 2] false
def c179_6 : CC := .reg [
  .mk (some p11) none (.mv (.t p2)) [] 0,
  .mk (some p12) none (.bin .add .num (.t p11) (.c (.int .i64 8))) [] 1,
  .mk (some p2) none (.mv (.t p12)) [] 2] false
def c179_7 : CC := .reg [
  .mk (some p13) none (.mv (.t p2)) [] 0,
  .mk (some p14) none (.mv (.t p0)) [] 1,
  .mk (some p15) none (.toint .u8 (.t p14)) [] 2,
  .mk (some p16) none (.index (.c (.str [0, 1, 2, 2, 3, 3, 3, 3, 4, 4, 4, 4, 4, 4, 4, 4, 5, 5, 5, 5, 5, 5, 5, 5, 5, 5, 5, 5, 5, 5, 5, 5, 6, 6, 6, 6, 6, 6, 6, 6, 6, 6, 6, 6, 6, 6, 6, 6, 6, 6, 6, 6, 6, 6, 6, 6, 6, 6, 6, 6, 6, 6, 6, 6, 7, 7, 7, 7, 7, 7, 7, 7, 7, 7, 7, 7, 7, 7, 7, 7, 7, 7, 7, 7, 7, 7, 7, 7, 7, 7, 7, 7, 7, 7, 7, 7, 7, 7, 7, 7, 7, 7, 7, 7, 7, 7, 7, 7, 7, 7, 7, 7, 7, 7, 7, 7, 7, 7, 7, 7, 7, 7, 7, 7, 7, 7, 7, 7, 8, 8, 8, 8, 8, 8, 8, 8, 8, 8, 8, 8, 8, 8, 8, 8, 8, 8, 8, 8, 8, 8, 8, 8, 8, 8, 8, 8, 8, 8, 8, 8, 8, 8, 8, 8, 8, 8, 8, 8, 8, 8, 8, 8, 8, 8, 8, 8, 8, 8, 8, 8, 8, 8, 8, 8, 8, 8, 8, 8, 8, 8, 8, 8, 8, 8, 8, 8, 8, 8, 8, 8, 8, 8, 8, 8, 8, 8, 8, 8, 8, 8, 8, 8, 8, 8, 8, 8, 8, 8, 8, 8, 8, 8, 8, 8, 8, 8, 8, 8, 8, 8, 8, 8, 8, 8, 8, 8, 8, 8, 8, 8, 8, 8, 8, 8, 8, 8, 8, 8, 8, 8, 8, 8, 8, 8, 8, 8])) (.t p15)) [] 3,
  .mk (some p17) none (.toint .i64 (.t p16)) [] 4,
  .mk (some p18) none (.bin .add .num (.t p13) (.t p17)) [] 5,
  .mk (some p2) none (.mv (.t p18)) [] 6] false
def F179 : CF := .mk 19 [p0] 5 (.seq c179_0 (.seq (.seq c179_1 (.cond (.t p4) (.seq c179_2 c179_3) .skip)) (.seq (.seq c179_4 (.cond (.t p8) (.seq c179_5 c179_6) .skip)) (.seq c179_7 .ret)))) [.t p2] 1
/- math/bits.Len64 -/
def c180_0 : CC := .reg [
  .mk (some p2) none (.mv (.c (.int .i64 0))) [] 0] false
def c180_1 : CC := .reg [
  .mk (some p3) none (.mv (.t p0)) [] 0,
  .mk (some p4) none (.bin .geq .num (.t p3) (.c (.int .u64 4294967296))) [] 1] false
def c180_2 : CC := .reg [
  .mk (some p5) none (.mv (.t p0)) [] 0,
  .mk (some p6) none (.bin .shr .num (.t p5) (.c (.int .u64 32))) [] 1,
  .mk (some p0) none (.mv (.t p6)) [] 2] false
def c180_3 : CC := .reg [
  .mk (some p2) none (.mv (.c (.int .i64 32))) [] 0] false
def c180_4 : CC := .reg [
  .mk (some p7) none (.mv (.t p0)) [] 0,
  .mk (some p8) none (.bin .geq .num (.t p7) (.c (.int .u64 65536))) [] 1] false
def c180_5 : CC := .reg [
  .mk (some p9) none (.mv (.t p0)) [] 0,
  .mk (some p10) none (.bin .shr .num (.t p9) (.c (.int .u64 16))) [] 1,
  .mk (some p0) none (.mv (.t p10)) [] 2] false
def c180_6 : CC := .reg [
  .mk (some p11) none (.mv (.t p2)) [] 0,
  .mk (some p12) none (.bin .add .num (.t p11) (.c (.int .i64 16))) [] 1,
  .mk (some p2) none (.mv (.t p12)) [] 2] false
def c180_7 : CC := .reg [
  .mk (some p13) none (.mv (.t p0)) [] 0,
  .mk (some p14) none (.bin .geq .num (.t p13) (.c (.int .u64 256))) [] 1] false
def c180_8 : CC := .reg [
  .mk (some p15) none (.mv (.t p0)) [] 0,
  .mk (some p16) none (.bin .shr .num (.t p15) (.c (.int .u64 8))) [] 1,
  .mk (some p0) none (.mv (.t p16)) [] 2] false
def c180_9 : CC := .reg [
  .mk (some p17) none (.mv (.t p2)) [] 0,
  .mk (some p18) none (.bin .add .num (.t p17) (.c (.int .i64 8))) [] 1,
  .mk (some p2) none (.mv (.t p18)) [] 2] false
def c180_10 : CC := .reg [
  .mk (some p19) none (.mv (.t p2)) [] 0,
  .mk (some p20) none (.mv (.t p0)) [] 1,
  .mk (some p21) none (.toint .u8 (.t p20)) [] 2,
  .mk (some p22) none (.index (.c (.str [0, 1, 2, 2, 3, 3, 3, 3, 4, 4, 4, 4, 4, 4, 4, 4, 5, 5, 5, 5, 5, 5, 5, 5, 5, 5, 5, 5, 5, 5, 5, 5, 6, 6, 6, 6, 6, 6, 6, 6, 6, 6, 6, 6, 6, 6, 6, 6, 6, 6, 6, 6, 6, 6, 6, 6, 6, 6, 6, 6, 6, 6, 6, 6, 7, 7, 7, 7, 7, 7, 7, 7, 7, 7, 7, 7, 7, 7, 7, 7, 7, 7, 7, 7, 7, 7, 7, 7, 7, 7, 7, 7, 7, 7, 7, 7, 7, 7, 7, 7, 7, 7, 7, 7, 7, 7, 7, 7, 7, 7, 7, 7, 7, 7, 7, 7, 7, 7, 7, 7, 7, 7, 7, 7, 7, 7, 7, 7, 8, 8, 8, 8, 8, 8, 8, 8, 8, 8, 8, 8, 8, 8, 8, 8, 8, 8, 8, 8, 8, 8, 8, 8, 8, 8, 8, 8, 8, 8, 8, 8, 8, 8, 8, 8, 8, 8, 8, 8, 8, 8, 8, 8, 8, 8, 8, 8, 8, 8, 8, 8, 8, 8, 8, 8, 8, 8, 8, 8, 8, 8, 8, 8, 8, 8, 8, 8, 8, 8, 8, 8, 8, 8, 8, 8, 8, 8, 8, 8, 8, 8, 8, 8, 8, 8, 8, 8, 8, 8, 8, 8, 8, 8, 8, 8, 8, 8, 8, 8, 8, 8, 8, 8, 8, 8, 8, 8, 8, 8, 8, 8, 8, 8, 8, 8, 8, 8, 8, 8, 8, 8, 8, 8, 8, 8, 8, 8])) (.t p21)) [] 3,
  .mk (some p23) none (.toint .i64 (.t p22)) [] 4,
  .mk (some p24) none (.bin .add .num (.t p19) (.t p23)) [] 5,
  .mk (some p2) none (.mv (.t p24)) [] 6] false
def F180 : CF := .mk 25 [p0] 5 (.seq c180_0 (.seq (.seq c180_1 (.cond (.t p4) (.seq c180_2 c180_3) .skip)) (.seq (.seq c180_4 (.cond (.t p8) (.seq c180_5 c180_6) .skip)) (.seq (.seq c180_7 (.cond (.t p14) (.seq c180_8 c180_9) .skip)) (.seq c180_10 .ret))))) [.t p2] 1
/- cmp.isNaN[int] -/
def c182_0 : CC := .reg [
  .mk (some p2) none (.mv (.c (.bool false))) [] 0] false
def c182_1 : CC := .reg [
  .mk (some p3) none (.mv (.t p0)) [] 0,
  .mk (some p4) none (.mv (.t p0)) [] 1,
  .mk (some p5) none (.bin .neq .num (.t p3) (.t p4)) [] 2,
  .mk (some p2) none (.mv (.t p5)) [] 3] false
def F182 : CF := .mk 6 [p0] 3 (.seq c182_0 (.seq c182_1 .ret)) [.t p2] 1
/- daybook/value.pairs$1 -/
def c187_0 : CC := .reg [
  .mk (some p5) none (.load 1 false (.t p1)) [] 0,
  .mk (some p6) none (.bin .neq .num (.t p5) (.c (.str []))) [] 1] false
def c187_1 : CC := .reg [
  .mk (some p10) none (.load 1 false (.t p1)) [] 0,
  .mk (some p11) none (.call (.c (.fn 188 [])) [(.t p10)]) [] 1,
  .mk (some p9) none (.mv (.t p11)) [] 2,
  .mk (some p12) none (.ext 0 (.t p9)) [] 3,
  .mk (some p13) none (.ext 1 (.t p9)) [] 4,
  .mk (some p3) none (.mv (.t p12)) [] 5,
  .mk (some p4) none (.mv (.t p13)) [] 6] false
def c187_2 : CC := .reg [
  .mk (some p14) none (.mv (.t p0)) [] 0,
  .mk (some p15) none (.mv (.t p3)) [] 1,
  .mk (some p16) none (.mv (.t p4)) [] 2,
  .mk (some p17) none (.call (.t p14) [(.t p15), (.t p16)]) [] 3,
  .mk (some p18) none (.un .not (.t p17)) [] 4,
  .mk (some p19) none (.mv (.t p18)) [] 5,
  .mk (some p20) (some (p19, false)) (.mv (.t p4)) [] 6,
  .mk (some p21) (some (p19, false)) (.un .not (.t p20)) [] 7,
  .mk (some p22) none (.pick (.t p19) (.c (.bool true)) (.t p21)) [] 8] false
def c187_3 : CC := .reg [
  .mk (some p7) none (.load 1 false (.t p1)) [] 0,
  .mk (some p8) none (.slices (.t p7) (some (.c (.int .i64 2))) none) [] 1,
  .mk none none (.store 1 (.t p1) (.t p8)) [] 2] false
def c187_4 : CC := .loop (.seq (.seq c187_0 (.cond (.t p6) .skip (.exit 0))) (.seq (.blk 1 (.seq c187_1 (.seq c187_2 (.cond (.t p22) .ret .skip)))) c187_3))
def F187 : CF := .mk 23 [p0, p1] 5 (.blk 0 c187_4) [] 0
/- daybook/value.pair -/
def c188_0 : CC := .reg [
  .mk (some p2) none (.mv (.c (.int .u8 0))) [] 0,
  .mk (some p3) none (.mv (.c (.bool false))) [] 1] false
def c188_1 : CC := .reg [
  .mk (some p6) none (.mv (.t p0)) [] 0,
  .mk (some p7) none (.len 0 (.t p6)) [] 1,
  .mk (some p8) none (.bin .lss .num (.t p7) (.c (.int .i64 2))) [] 2] false
def c188_2 : CC := .reg [
  .mk (some p2) none (.mv (.c (.int .u8 0))) [] 0,
  .mk (some p3) none (.mv (.c (.bool false))) [] 1] false
def c188_3 : CC := .reg [
  .mk (some p9) none (.mv (.t p0)) [] 0,
  .mk (some p10) none (.index (.t p9) (.c (.int .i64 0))) [] 1,
  .mk (some p12) none (.mv (.t p0)) [] 3,
  .mk (some p13) none (.index (.t p12) (.c (.int .i64 1))) [] 4,
  .mk (some p11) none (.call (.c (.fn 103 [])) [(.c (.str [48, 49, 50, 51, 52, 53, 54, 55, 56, 57, 97, 98, 99, 100, 101, 102])), (.t p10)]) [] 2,
  .mk (some p14) none (.call (.c (.fn 103 [])) [(.c (.str [48, 49, 50, 51, 52, 53, 54, 55, 56, 57, 97, 98, 99, 100, 101, 102])), (.t p13)]) [] 5,
  .mk (some p4) none (.mv (.t p11)) [] 6,
  .mk (some p5) none (.mv (.t p14)) [] 7] true
def c188_4 : CC := .reg [
  .mk (some p15) none (.mv (.t p4)) [] 0,
  .mk (some p16) none (.bin .shl .num (.t p15) (.c (.int .u64 4))) [] 1,
  .mk (some p17) none (.mv (.t p5)) [] 2,
  .mk (some p18) none (.bin .or .num (.t p16) (.t p17)) [] 3,
  .mk (some p19) none (.toint .u8 (.t p18)) [] 4,
  .mk (some p20) none (.mv (.t p4)) [] 5,
  .mk (some p21) none (.bin .geq .num (.t p20) (.c (.int .i64 0))) [] 6,
  .mk (some p22) none (.mv (.t p21)) [] 7,
  .mk (some p23) (some (p22, true)) (.mv (.t p5)) [] 8,
  .mk (some p24) (some (p22, true)) (.bin .geq .num (.t p23) (.c (.int .i64 0))) [] 9,
  .mk (some p25) none (.pick (.t p22) (.t p24) (.c (.bool false))) [] 10,
  .mk (some p2) none (.mv (.t p19)) [] 11,
  .mk (some p3) none (.mv (.t p25)) [] 12] false
def F188 : CF := .mk 26 [p0] 5 (.seq c188_0 (.seq (.seq c188_1 (.cond (.t p8) (.seq c188_2 .ret) .skip)) (.seq c188_3 (.seq c188_4 .ret)))) [.t p2, .t p3] 1
/- internal/stringslite.CutSuffix -/
def c189_0 : CC := .reg [
  .mk (some p4) none (.mv (.c (.str []))) [] 0,
  .mk (some p5) none (.mv (.c (.bool false))) [] 1] false
def c189_1 : CC := .reg [
  .mk (some p6) none (.mv (.t p0)) [] 0,
  .mk (some p7) none (.mv (.t p1)) [] 1,
  .mk (some p8) none (.call (.c (.fn 210 [])) [(.t p6), (.t p7)]) [] 2,
  .mk (some p9) none (.un .not (.t p8)) [] 3] false
def c189_2 : CC := .reg [
  .mk (some p10) none (.mv (.t p0)) [] 0,
  .mk (some p4) none (.mv (.t p10)) [] 1,
  .mk (some p5) none (.mv (.c (.bool false))) [] 2] false
def c189_3 : CC := .reg [
  .mk (some p11) none (.mv (.t p0)) [] 0,
  .mk (some p12) none (.mv (.t p0)) [] 1,
  .mk (some p13) none (.len 0 (.t p12)) [] 2,
  .mk (some p14) none (.mv (.t p1)) [] 3,
  .mk (some p15) none (.len 0 (.t p14)) [] 4,
  .mk (some p16) none (.bin .sub .num (.t p13) (.t p15)) [] 5,
  .mk (some p17) none (.slices (.t p11) none (some (.t p16))) [] 6,
  .mk (some p4) none (.mv (.t p17)) [] 7,
  .mk (some p5) none (.mv (.c (.bool true))) [] 8] false
def F189 : CF := .mk 18 [p0, p1] 5 (.seq c189_0 (.seq (.seq c189_1 (.cond (.t p9) (.seq c189_2 .ret) .skip)) (.seq c189_3 .ret))) [.t p4, .t p5] 1
/- daybook/value.plain -/
def c190_0 : CC := .reg [
  .mk (some p2) none (.mv (.c (.bool false))) [] 0] false
def c190_1 : CC := .reg [
  .mk (some p3) none (.mv (.t p0)) [] 0,
  .mk (some p4) none (.bin .geq .num (.t p3) (.c (.int .u8 32))) [] 1,
  .mk (some p5) none (.mv (.t p4)) [] 2,
  .mk (some p6) (some (p5, true)) (.mv (.t p0)) [] 3,
  .mk (some p7) (some (p5, true)) (.bin .leq .num (.t p6) (.c (.int .u8 126))) [] 4,
  .mk (some p8) none (.pick (.t p5) (.t p7) (.c (.bool false))) [] 5,
  .mk (some p9) none (.mv (.t p8)) [] 6,
  .mk (some p10) (some (p9, true)) (.mv (.t p0)) [] 7,
  .mk (some p11) (some (p9, true)) (.bin .neq .num (.t p10) (.c (.int .u8 34))) [] 8,
  .mk (some p12) none (.pick (.t p9) (.t p11) (.c (.bool false))) [] 9,
  .mk (some p13) none (.mv (.t p12)) [] 10,
  .mk (some p14) (some (p13, true)) (.mv (.t p0)) [] 11,
  .mk (some p15) (some (p13, true)) (.bin .neq .num (.t p14) (.c (.int .u8 92))) [] 12,
  .mk (some p16) none (.pick (.t p13) (.t p15) (.c (.bool false))) [] 13,
  .mk (some p2) none (.mv (.t p16)) [] 14] false
def F190 : CF := .mk 17 [p0] 5 (.seq c190_0 (.seq c190_1 .ret)) [.t p2] 1
/- strconv.FormatBool -/
def c195_0 : CC := .reg [
  .mk (some p2) none (.mv (.c (.str []))) [] 0] false
def c195_1 : CC := .reg [
  .mk (some p3) none (.mv (.t p0)) [] 0,
  .mk (some p4) none (.call (.c (.fn 211 [])) [(.t p3)]) [] 1,
  .mk (some p2) none (.mv (.t p4)) [] 2] false
def F195 : CF := .mk 5 [p0] 3 (.seq c195_0 (.seq c195_1 .ret)) [.t p2] 1
/- daybook/value.hex -/
def c196_0 : CC := .reg [
  .mk (some p2) none (.mv (.c (.str []))) [] 0] false
def c196_1 : CC := .reg [
  .mk (some p3) none (.mv (.t p0)) [] 0,
  .mk (some p4) none (.bin .shr .num (.t p3) (.c (.int .u64 4))) [] 1,
  .mk (some p5) none (.index (.c (.str [48, 49, 50, 51, 52, 53, 54, 55, 56, 57, 97, 98, 99, 100, 101, 102])) (.t p4)) [] 2,
  .mk (some p6) none (.mv (.t p0)) [] 3,
  .mk (some p7) none (.bin .and .num (.t p6) (.c (.int .u8 15))) [] 4,
  .mk (some p8) none (.index (.c (.str [48, 49, 50, 51, 52, 53, 54, 55, 56, 57, 97, 98, 99, 100, 101, 102])) (.t p7)) [] 5,
  .mk (some p9) none (.bslice 5 1 [(.int .u8 0)] 2 [(0, (.t p5)), (1, (.t p8))]) [] 6,
  .mk (some p10) none (.b2s (.t p9)) [] 7,
  .mk (some p2) none (.mv (.t p10)) [] 8] true
def F196 : CF := .mk 11 [p0] 4 (.seq c196_0 (.seq c196_1 .ret)) [.t p2] 1
/- daybook/datom.may -/
def c197_0 : CC := .reg [
  .mk (some p1) none (.box 154 (.t p0)) [] 0,
  .mk (some p2) none (.mv (.c (.bool false))) [] 1] false
def c197_1 : CC := .reg [
  .mk (some p3) none (.faddr 0 (.t p1)) [] 0,
  .mk (some p4) none (.load 1 false (.t p3)) [] 1,
  .mk (some p5) none (.bin .geq .num (.t p4) (.c (.int .i64 0))) [] 2,
  .mk (some p6) none (.mv (.t p5)) [] 3,
  .mk (some p7) (some (p6, true)) (.faddr 0 (.t p1)) [] 4,
  .mk (some p8) (some (p6, true)) (.load 1 false (.t p7)) [] 5,
  .mk (some p9) (some (p6, true)) (.bin .lss .num (.t p8) (.c (.int .i64 9007199254740992))) [] 6,
  .mk (some p10) none (.pick (.t p6) (.t p9) (.c (.bool false))) [] 7,
  .mk (some p11) none (.mv (.t p10)) [] 8,
  .mk (some p12) (some (p11, true)) (.faddr 1 (.t p1)) [] 9,
  .mk (some p13) (some (p11, true)) (.load 1 false (.t p12)) [] 10,
  .mk (some p14) (some (p11, true)) (.bin .geq .num (.t p13) (.c (.int .i64 0))) [] 11,
  .mk (some p15) none (.pick (.t p11) (.t p14) (.c (.bool false))) [] 12,
  .mk (some p16) none (.mv (.t p15)) [] 13,
  .mk (some p17) (some (p16, true)) (.faddr 1 (.t p1)) [] 14,
  .mk (some p18) (some (p16, true)) (.load 1 false (.t p17)) [] 15,
  .mk (some p19) (some (p16, true)) (.bin .lss .num (.t p18) (.c (.int .i64 9007199254740992))) [] 16,
  .mk (some p20) none (.pick (.t p16) (.t p19) (.c (.bool false))) [] 17,
  .mk (some p21) none (.mv (.t p20)) [] 18,
  .mk (some p22) (some (p21, true)) (.faddr 2 (.t p1)) [] 19,
  .mk (some p23) (some (p21, true)) (.load 3 true (.t p22)) [] 20,
  .mk (some p24) (some (p21, true)) (.call (.c (.fn 97 [])) [(.t p23)]) [] 21,
  .mk (some p25) (some (p21, true)) (.bin .eql .num (.t p24) (.c (.int .i64 0))) [] 22,
  .mk (some p26) none (.pick (.t p21) (.t p25) (.c (.bool false))) [] 23,
  .mk (some p27) none (.mv (.t p26)) [] 24,
  .mk (some p28) (some (p27, true)) (.faddr 5 (.t p1)) [] 25,
  .mk (some p29) (some (p27, true)) (.load 1 false (.t p28)) [] 26,
  .mk (some p30) (some (p27, true)) (.bin .geq .num (.t p29) (.c (.int .i64 1))) [] 27,
  .mk (some p31) none (.pick (.t p27) (.t p30) (.c (.bool false))) [] 28,
  .mk (some p32) none (.mv (.t p31)) [] 29,
  .mk (some p33) (some (p32, true)) (.faddr 5 (.t p1)) [] 30,
  .mk (some p34) (some (p32, true)) (.load 1 false (.t p33)) [] 31,
  .mk (some p35) (some (p32, true)) (.bin .leq .num (.t p34) (.c (.int .i64 1099511627776))) [] 32,
  .mk (some p36) none (.pick (.t p32) (.t p35) (.c (.bool false))) [] 33,
  .mk (some p37) none (.mv (.t p36)) [] 34,
  .mk (some p38) (some (p37, true)) (.faddr 7 (.t p1)) [] 35,
  .mk (some p39) (some (p37, true)) (.load 1 false (.t p38)) [] 36,
  .mk (some p40) (some (p37, true)) (.faddr 8 (.t p1)) [] 37,
  .mk (some p41) (some (p37, true)) (.load 1 false (.t p40)) [] 38,
  .mk (some p42) (some (p37, true)) (.bin .lss .num (.t p39) (.t p41)) [] 39,
  .mk (some p43) none (.pick (.t p37) (.t p42) (.c (.bool false))) [] 40,
  .mk (some p2) none (.mv (.t p43)) [] 41] false
def F197 : CF := .mk 44 [p0] 6 (.seq c197_0 (.seq c197_1 .ret)) [.t p2] 1
/- daybook/span.set -/
def c198_0 : CC := .reg [
  .mk (some p2) none (.mv (.c (.bool false))) [] 0] false
def c198_1 : CC := .reg [
  .mk (some p5) none (.mv (.t p0)) [] 0,
  .mk (some p6) none (.len 1 (.t p5)) [] 1,
  .mk (some p7) none (.mv (.c (.int .i64 0))) [] 2] false
def c198_2 : CC := .reg [
  .mk (some p8) none (.bin .lss .num (.t p7) (.t p6)) [] 0] false
def c198_3 : CC := .reg [
  .mk (some p9) none (.mv (.t p7)) [] 0,
  .mk (some p10) none (.iaddr 2 (.t p5) (.t p7)) [] 1,
  .mk (some p11) none (.load 2 true (.t p10)) [] 2,
  .mk (some p4) none (.alloc 166 [(.int .i64 0), (.int .i64 0)]) [] 3,
  .mk (some p3) none (.mv (.t p9)) [] 4,
  .mk none none (.store 2 (.t p4) (.t p11)) [] 5] false
def c198_4 : CC := .reg [
  .mk (some p12) none (.faddr 0 (.t p4)) [] 0,
  .mk (some p13) none (.load 1 false (.t p12)) [] 1,
  .mk (some p14) none (.faddr 1 (.t p4)) [] 2,
  .mk (some p15) none (.load 1 false (.t p14)) [] 3,
  .mk (some p16) none (.bin .geq .num (.t p13) (.t p15)) [] 4,
  .mk (some p17) none (.mv (.t p16)) [] 5,
  .mk (some p18) (some (p17, false)) (.mv (.t p3)) [] 6,
  .mk (some p19) (some (p17, false)) (.bin .gtr .num (.t p18) (.c (.int .i64 0))) [] 7,
  .mk (some p20) (some (p17, false)) (.mv (.t p19)) [] 8,
  .mk (some p21) (some (p20, true)) (.faddr 0 (.t p4)) [] 9,
  .mk (some p22) (some (p20, true)) (.load 1 false (.t p21)) [] 10,
  .mk (some p23) (some (p20, true)) (.mv (.t p0)) [] 11,
  .mk (some p24) (some (p20, true)) (.mv (.t p3)) [] 12,
  .mk (some p25) (some (p20, true)) (.bin .sub .num (.t p24) (.c (.int .i64 1))) [] 13,
  .mk (some p26) (some (p20, true)) (.iaddr 2 (.t p23) (.t p25)) [] 14,
  .mk (some p27) (some (p20, true)) (.faddr 1 (.t p26)) [] 15,
  .mk (some p28) (some (p20, true)) (.load 1 false (.t p27)) [] 16,
  .mk (some p29) (some (p20, true)) (.bin .leq .num (.t p22) (.t p28)) [] 17,
  .mk (some p30) (some (p17, false)) (.pick (.t p20) (.t p29) (.c (.bool false))) [] 18,
  .mk (some p31) none (.pick (.t p17) (.c (.bool true)) (.t p30)) [] 19] true
def c198_5 : CC := .reg [
  .mk (some p2) none (.mv (.c (.bool false))) [] 0] false
def c198_6 : CC := .reg [
  .mk (some p32) none (.bin .add .num (.t p7) (.c (.int .i64 1))) [] 0,
  .mk (some p7) none (.mv (.t p32)) [] 1] false
def c198_7 : CC := .loop (.seq c198_2 (.seq (.cond (.t p8) .skip (.exit 0)) (.seq (.blk 1 (.seq c198_3 (.seq c198_4 (.cond (.t p31) (.seq c198_5 .ret) .skip)))) c198_6)))
def c198_8 : CC := .reg [
  .mk (some p2) none (.mv (.c (.bool true))) [] 0] false
def F198 : CF := .mk 33 [p0] 6 (.seq c198_0 (.seq (.seq c198_1 (.blk 0 c198_7)) (.seq c198_8 .ret))) [.t p2] 1
/- cmp.isNaN[int64] -/
def c199_0 : CC := .reg [
  .mk (some p2) none (.mv (.c (.bool false))) [] 0] false
def c199_1 : CC := .reg [
  .mk (some p3) none (.mv (.t p0)) [] 0,
  .mk (some p4) none (.mv (.t p0)) [] 1,
  .mk (some p5) none (.bin .neq .num (.t p3) (.t p4)) [] 2,
  .mk (some p2) none (.mv (.t p5)) [] 3] false
def F199 : CF := .mk 6 [p0] 3 (.seq c199_0 (.seq c199_1 .ret)) [.t p2] 1
/- slices.Contains[[]int64,int64] -/
def c200_0 : CC := .reg [
  .mk (some p4) none (.mv (.c (.bool false))) [] 0] false
def c200_1 : CC := .reg [
  .mk (some p5) none (.mv (.t p0)) [] 0,
  .mk (some p6) none (.mv (.t p1)) [] 1,
  .mk (some p7) none (.call (.c (.fn 212 [])) [(.t p5), (.t p6)]) [] 2,
  .mk (some p8) none (.bin .geq .num (.t p7) (.c (.int .i64 0))) [] 3,
  .mk (some p4) none (.mv (.t p8)) [] 4] false
def F200 : CF := .mk 9 [p0, p1] 4 (.seq c200_0 (.seq c200_1 .ret)) [.t p4] 1
/- slices.siftDownCmpFunc[daybook/api.Branch] -/
def c201_0 : CC := .reg [
  .mk (some p12) none (.mv (.t p1)) [] 0,
  .mk (some p10) none (.mv (.t p12)) [] 1] false
def c201_1 : CC := .reg [
  .mk (some p13) none (.mv (.t p10)) [] 0,
  .mk (some p14) none (.bin .mul .num (.c (.int .i64 2)) (.t p13)) [] 1,
  .mk (some p15) none (.bin .add .num (.t p14) (.c (.int .i64 1))) [] 2,
  .mk (some p11) none (.mv (.t p15)) [] 3] false
def c201_2 : CC := .reg [
  .mk (some p16) none (.mv (.t p11)) [] 0,
  .mk (some p17) none (.mv (.t p2)) [] 1,
  .mk (some p18) none (.bin .geq .num (.t p16) (.t p17)) [] 2] false
def c201_3 : CC := .reg [
  .mk (some p19) none (.mv (.t p11)) [] 0,
  .mk (some p20) none (.bin .add .num (.t p19) (.c (.int .i64 1))) [] 1,
  .mk (some p21) none (.mv (.t p2)) [] 2,
  .mk (some p22) none (.bin .lss .num (.t p20) (.t p21)) [] 3,
  .mk (some p23) none (.mv (.t p22)) [] 4,
  .mk (some p24) (some (p23, true)) (.mv (.t p4)) [] 5,
  .mk (some p25) (some (p23, true)) (.mv (.t p0)) [] 6,
  .mk (some p26) (some (p23, true)) (.mv (.t p3)) [] 7,
  .mk (some p27) (some (p23, true)) (.mv (.t p11)) [] 8,
  .mk (some p28) (some (p23, true)) (.bin .add .num (.t p26) (.t p27)) [] 9,
  .mk (some p29) (some (p23, true)) (.iaddr 3 (.t p25) (.t p28)) [] 10,
  .mk (some p30) (some (p23, true)) (.load 3 true (.t p29)) [] 11,
  .mk (some p31) (some (p23, true)) (.mv (.t p0)) [] 12,
  .mk (some p32) (some (p23, true)) (.mv (.t p3)) [] 13,
  .mk (some p33) (some (p23, true)) (.mv (.t p11)) [] 14,
  .mk (some p34) (some (p23, true)) (.bin .add .num (.t p32) (.t p33)) [] 15,
  .mk (some p35) (some (p23, true)) (.bin .add .num (.t p34) (.c (.int .i64 1))) [] 16,
  .mk (some p36) (some (p23, true)) (.iaddr 3 (.t p31) (.t p35)) [] 17,
  .mk (some p37) (some (p23, true)) (.load 3 true (.t p36)) [] 18,
  .mk (some p38) (some (p23, true)) (.call (.t p24) [(.t p30), (.t p37)]) [] 19,
  .mk (some p39) (some (p23, true)) (.bin .lss .num (.t p38) (.c (.int .i64 0))) [] 20,
  .mk (some p40) none (.pick (.t p23) (.t p39) (.c (.bool false))) [] 21] true
def c201_4 : CC := .reg [
  .mk (some p41) none (.mv (.t p11)) [] 0,
  .mk (some p42) none (.bin .add .num (.t p41) (.c (.int .i64 1))) [] 1,
  .mk (some p11) none (.mv (.t p42)) [] 2] false
def c201_5 : CC := .reg [
  .mk (some p43) none (.mv (.t p4)) [] 0,
  .mk (some p44) none (.mv (.t p0)) [] 1,
  .mk (some p45) none (.mv (.t p3)) [] 2,
  .mk (some p46) none (.mv (.t p10)) [] 3,
  .mk (some p47) none (.bin .add .num (.t p45) (.t p46)) [] 4,
  .mk (some p48) none (.iaddr 3 (.t p44) (.t p47)) [] 5,
  .mk (some p49) none (.load 3 true (.t p48)) [] 6,
  .mk (some p50) none (.mv (.t p0)) [] 7,
  .mk (some p51) none (.mv (.t p3)) [] 8,
  .mk (some p52) none (.mv (.t p11)) [] 9,
  .mk (some p53) none (.bin .add .num (.t p51) (.t p52)) [] 10,
  .mk (some p54) none (.iaddr 3 (.t p50) (.t p53)) [] 11,
  .mk (some p55) none (.load 3 true (.t p54)) [] 12,
  .mk (some p56) none (.call (.t p43) [(.t p49), (.t p55)]) [] 13,
  .mk (some p57) none (.bin .lss .num (.t p56) (.c (.int .i64 0))) [] 14,
  .mk (some p58) none (.un .not (.t p57)) [] 15] true
def c201_6 : CC := .reg [
  .mk (some p59) none (.mv (.t p0)) [] 0,
  .mk (some p60) none (.mv (.t p3)) [] 1,
  .mk (some p61) none (.mv (.t p10)) [] 2,
  .mk (some p62) none (.bin .add .num (.t p60) (.t p61)) [] 3,
  .mk (some p63) none (.mv (.t p0)) [] 4,
  .mk (some p64) none (.mv (.t p3)) [] 5,
  .mk (some p65) none (.mv (.t p11)) [] 6,
  .mk (some p66) none (.bin .add .num (.t p64) (.t p65)) [] 7,
  .mk (some p67) none (.mv (.t p0)) [] 8,
  .mk (some p68) none (.mv (.t p3)) [] 9,
  .mk (some p69) none (.mv (.t p11)) [] 10,
  .mk (some p70) none (.bin .add .num (.t p68) (.t p69)) [] 11,
  .mk (some p71) none (.iaddr 3 (.t p67) (.t p70)) [] 12,
  .mk (some p72) none (.load 3 true (.t p71)) [] 13,
  .mk (some p73) none (.mv (.t p0)) [] 14,
  .mk (some p74) none (.mv (.t p3)) [] 15,
  .mk (some p75) none (.mv (.t p10)) [] 16,
  .mk (some p76) none (.bin .add .num (.t p74) (.t p75)) [] 17,
  .mk (some p77) none (.iaddr 3 (.t p73) (.t p76)) [] 18,
  .mk (some p78) none (.load 3 true (.t p77)) [] 19,
  .mk (some p79) none (.iaddr 3 (.t p59) (.t p62)) [] 20,
  .mk none none (.store 3 (.t p79) (.t p72)) [] 21,
  .mk (some p80) none (.iaddr 3 (.t p63) (.t p66)) [] 22,
  .mk none none (.store 3 (.t p80) (.t p78)) [] 23] true
def c201_7 : CC := .reg [
  .mk (some p81) none (.mv (.t p11)) [] 0,
  .mk (some p10) none (.mv (.t p81)) [] 1] false
def c201_8 : CC := .loop (.blk 1 (.seq c201_1 (.seq (.seq c201_2 (.cond (.t p18) (.exit 0) .skip)) (.seq (.seq c201_3 (.cond (.t p40) c201_4 .skip)) (.seq (.seq c201_5 (.cond (.t p58) .ret .skip)) (.seq c201_6 c201_7))))))
def F201 : CF := .mk 82 [p0, p1, p2, p3, p4] 7 (.seq c201_0 (.blk 0 c201_8)) [] 0
/- slices.nextPowerOfTwo -/
def c202_0 : CC := .reg [
  .mk (some p2) none (.mv (.c (.int .u64 0))) [] 0] false
def c202_1 : CC := .reg [
  .mk (some p3) none (.mv (.t p0)) [] 0,
  .mk (some p4) none (.toint .u64 (.t p3)) [] 1,
  .mk (some p5) none (.call (.c (.fn 138 [])) [(.t p4)]) [] 2,
  .mk (some p6) none (.bin .shl .num (.c (.int .u64 1)) (.t p5)) [] 3,
  .mk (some p2) none (.mv (.t p6)) [] 4] false
def F202 : CF := .mk 7 [p0] 3 (.seq c202_0 (.seq c202_1 .ret)) [.t p2] 1
/- (*slices.xorshift).Next -/
def c203_0 : CC := .reg [
  .mk (some p2) none (.mv (.c (.int .u64 0))) [] 0] false
def c203_1 : CC := .reg [
  .mk (some p3) none (.mv (.t p0)) [] 0,
  .mk (some p4) none (.nilck (.t p3)) [] 1,
  .mk (some p5) none (.load 1 false (.t p4)) [] 2,
  .mk (some p6) none (.mv (.t p0)) [] 3,
  .mk (some p7) none (.nilck (.t p6)) [] 4,
  .mk (some p8) none (.load 1 false (.t p7)) [] 5,
  .mk (some p9) none (.bin .shl .num (.t p8) (.c (.int .u64 13))) [] 6,
  .mk (some p10) none (.bin .xor .num (.t p5) (.t p9)) [] 7,
  .mk (some p11) none (.nilck (.t p3)) [] 8,
  .mk none none (.store 1 (.t p11) (.t p10)) [] 9] true
def c203_2 : CC := .reg [
  .mk (some p12) none (.mv (.t p0)) [] 0,
  .mk (some p13) none (.nilck (.t p12)) [] 1,
  .mk (some p14) none (.load 1 false (.t p13)) [] 2,
  .mk (some p15) none (.mv (.t p0)) [] 3,
  .mk (some p16) none (.nilck (.t p15)) [] 4,
  .mk (some p17) none (.load 1 false (.t p16)) [] 5,
  .mk (some p18) none (.bin .shr .num (.t p17) (.c (.int .u64 7))) [] 6,
  .mk (some p19) none (.bin .xor .num (.t p14) (.t p18)) [] 7,
  .mk (some p20) none (.nilck (.t p12)) [] 8,
  .mk none none (.store 1 (.t p20) (.t p19)) [] 9] true
def c203_3 : CC := .reg [
  .mk (some p21) none (.mv (.t p0)) [] 0,
  .mk (some p22) none (.nilck (.t p21)) [] 1,
  .mk (some p23) none (.load 1 false (.t p22)) [] 2,
  .mk (some p24) none (.mv (.t p0)) [] 3,
  .mk (some p25) none (.nilck (.t p24)) [] 4,
  .mk (some p26) none (.load 1 false (.t p25)) [] 5,
  .mk (some p27) none (.bin .shl .num (.t p26) (.c (.int .u64 17))) [] 6,
  .mk (some p28) none (.bin .xor .num (.t p23) (.t p27)) [] 7,
  .mk (some p29) none (.nilck (.t p21)) [] 8,
  .mk none none (.store 1 (.t p29) (.t p28)) [] 9] true
def c203_4 : CC := .reg [
  .mk (some p30) none (.mv (.t p0)) [] 0,
  .mk (some p31) none (.nilck (.t p30)) [] 1,
  .mk (some p32) none (.load 1 false (.t p31)) [] 2,
  .mk (some p2) none (.mv (.t p32)) [] 3] false
def F203 : CF := .mk 33 [p0] 6 (.seq c203_0 (.seq c203_1 (.seq c203_2 (.seq c203_3 (.seq c203_4 .ret))))) [.t p2] 1
/- slices.medianAdjacentCmpFunc[daybook/api.Branch] -/
def c204_0 : CC := .reg [
  .mk (some p8) none (.mv (.c (.int .i64 0))) [] 0] false
def c204_1 : CC := .reg [
  .mk (some p9) none (.mv (.t p0)) [] 0,
  .mk (some p10) none (.mv (.t p1)) [] 1,
  .mk (some p11) none (.bin .sub .num (.t p10) (.c (.int .i64 1))) [] 2,
  .mk (some p12) none (.mv (.t p1)) [] 3,
  .mk (some p13) none (.mv (.t p1)) [] 4,
  .mk (some p14) none (.bin .add .num (.t p13) (.c (.int .i64 1))) [] 5,
  .mk (some p15) none (.mv (.t p2)) [] 6,
  .mk (some p16) none (.mv (.t p3)) [] 7,
  .mk (some p17) none (.call (.c (.fn 205 [])) [(.t p9), (.t p11), (.t p12), (.t p14), (.t p15), (.t p16)]) [] 8,
  .mk (some p8) none (.mv (.t p17)) [] 9] false
def F204 : CF := .mk 18 [p0, p1, p2, p3] 5 (.seq c204_0 (.seq c204_1 .ret)) [.t p8] 0
/- slices.medianCmpFunc[daybook/api.Branch] -/
def c205_0 : CC := .reg [
  .mk (some p12) none (.mv (.c (.int .i64 0))) [] 0] false
def c205_1 : CC := .reg [
  .mk (some p14) none (.mv (.t p0)) [] 0,
  .mk (some p15) none (.mv (.t p1)) [] 1,
  .mk (some p16) none (.mv (.t p2)) [] 2,
  .mk (some p17) none (.mv (.t p4)) [] 3,
  .mk (some p18) none (.mv (.t p5)) [] 4,
  .mk (some p19) none (.call (.c (.fn 213 [])) [(.t p14), (.t p15), (.t p16), (.t p17), (.t p18)]) [] 5,
  .mk (some p13) none (.mv (.t p19)) [] 6,
  .mk (some p20) none (.ext 0 (.t p13)) [] 7,
  .mk (some p21) none (.ext 1 (.t p13)) [] 8,
  .mk (some p1) none (.mv (.t p20)) [] 9,
  .mk (some p2) none (.mv (.t p21)) [] 10] false
def c205_2 : CC := .reg [
  .mk (some p23) none (.mv (.t p0)) [] 0,
  .mk (some p24) none (.mv (.t p2)) [] 1,
  .mk (some p25) none (.mv (.t p3)) [] 2,
  .mk (some p26) none (.mv (.t p4)) [] 3,
  .mk (some p27) none (.mv (.t p5)) [] 4,
  .mk (some p28) none (.call (.c (.fn 213 [])) [(.t p23), (.t p24), (.t p25), (.t p26), (.t p27)]) [] 5,
  .mk (some p22) none (.mv (.t p28)) [] 6,
  .mk (some p29) none (.ext 0 (.t p22)) [] 7,
  .mk (some p30) none (.ext 1 (.t p22)) [] 8,
  .mk (some p2) none (.mv (.t p29)) [] 9,
  .mk (some p3) none (.mv (.t p30)) [] 10] false
def c205_3 : CC := .reg [
  .mk (some p32) none (.mv (.t p0)) [] 0,
  .mk (some p33) none (.mv (.t p1)) [] 1,
  .mk (some p34) none (.mv (.t p2)) [] 2,
  .mk (some p35) none (.mv (.t p4)) [] 3,
  .mk (some p36) none (.mv (.t p5)) [] 4,
  .mk (some p37) none (.call (.c (.fn 213 [])) [(.t p32), (.t p33), (.t p34), (.t p35), (.t p36)]) [] 5,
  .mk (some p31) none (.mv (.t p37)) [] 6,
  .mk (some p38) none (.ext 0 (.t p31)) [] 7,
  .mk (some p39) none (.ext 1 (.t p31)) [] 8,
  .mk (some p1) none (.mv (.t p38)) [] 9,
  .mk (some p2) none (.mv (.t p39)) [] 10] false
def c205_4 : CC := .reg [
  .mk (some p40) none (.mv (.t p2)) [] 0,
  .mk (some p12) none (.mv (.t p40)) [] 1] false
def F205 : CF := .mk 41 [p0, p1, p2, p3, p4, p5] 6 (.seq c205_0 (.seq c205_1 (.seq c205_2 (.seq c205_3 (.seq c205_4 .ret))))) [.t p12] 0
/- internal/stringslite.HasSuffix -/
def c210_0 : CC := .reg [
  .mk (some p4) none (.mv (.c (.bool false))) [] 0] false
def c210_1 : CC := .reg [
  .mk (some p5) none (.mv (.t p0)) [] 0,
  .mk (some p6) none (.len 0 (.t p5)) [] 1,
  .mk (some p7) none (.mv (.t p1)) [] 2,
  .mk (some p8) none (.len 0 (.t p7)) [] 3,
  .mk (some p9) none (.bin .geq .num (.t p6) (.t p8)) [] 4,
  .mk (some p10) none (.mv (.t p9)) [] 5,
  .mk (some p11) (some (p10, true)) (.mv (.t p0)) [] 6,
  .mk (some p12) (some (p10, true)) (.mv (.t p0)) [] 7,
  .mk (some p13) (some (p10, true)) (.len 0 (.t p12)) [] 8,
  .mk (some p14) (some (p10, true)) (.mv (.t p1)) [] 9,
  .mk (some p15) (some (p10, true)) (.len 0 (.t p14)) [] 10,
  .mk (some p16) (some (p10, true)) (.bin .sub .num (.t p13) (.t p15)) [] 11,
  .mk (some p17) (some (p10, true)) (.slices (.t p11) (some (.t p16)) none) [] 12,
  .mk (some p18) (some (p10, true)) (.mv (.t p1)) [] 13,
  .mk (some p19) (some (p10, true)) (.bin .eql .num (.t p17) (.t p18)) [] 14,
  .mk (some p20) none (.pick (.t p10) (.t p19) (.c (.bool false))) [] 15,
  .mk (some p4) none (.mv (.t p20)) [] 16] false
def F210 : CF := .mk 21 [p0, p1] 5 (.seq c210_0 (.seq c210_1 .ret)) [.t p4] 1
/- internal/strconv.FormatBool -/
def c211_0 : CC := .reg [
  .mk (some p2) none (.mv (.c (.str []))) [] 0] false
def c211_1 : CC := .reg [
  .mk (some p3) none (.mv (.t p0)) [] 0] false
def c211_2 : CC := .reg [
  .mk (some p2) none (.mv (.c (.str [116, 114, 117, 101]))) [] 0] false
def c211_3 : CC := .reg [
  .mk (some p2) none (.mv (.c (.str [102, 97, 108, 115, 101]))) [] 0] false
def F211 : CF := .mk 4 [p0] 3 (.seq c211_0 (.seq (.seq c211_1 (.cond (.t p3) (.seq c211_2 .ret) .skip)) (.seq c211_3 .ret))) [.t p2] 1
/- slices.Index[[]int64,int64] -/
def c212_0 : CC := .reg [
  .mk (some p4) none (.mv (.c (.int .i64 0))) [] 0] false
def c212_1 : CC := .reg [
  .mk (some p6) none (.mv (.t p0)) [] 0,
  .mk (some p7) none (.len 1 (.t p6)) [] 1,
  .mk (some p8) none (.mv (.c (.int .i64 0))) [] 2] false
def c212_2 : CC := .reg [
  .mk (some p9) none (.bin .lss .num (.t p8) (.t p7)) [] 0] false
def c212_3 : CC := .reg [
  .mk (some p10) none (.mv (.t p8)) [] 0,
  .mk (some p5) none (.mv (.t p10)) [] 1] false
def c212_4 : CC := .reg [
  .mk (some p11) none (.mv (.t p1)) [] 0,
  .mk (some p12) none (.mv (.t p0)) [] 1,
  .mk (some p13) none (.mv (.t p5)) [] 2,
  .mk (some p14) none (.iaddr 1 (.t p12) (.t p13)) [] 3,
  .mk (some p15) none (.load 1 false (.t p14)) [] 4,
  .mk (some p16) none (.bin .eql .num (.t p11) (.t p15)) [] 5] false
def c212_5 : CC := .reg [
  .mk (some p17) none (.mv (.t p5)) [] 0,
  .mk (some p4) none (.mv (.t p17)) [] 1] false
def c212_6 : CC := .reg [
  .mk (some p18) none (.bin .add .num (.t p8) (.c (.int .i64 1))) [] 0,
  .mk (some p8) none (.mv (.t p18)) [] 1] false
def c212_7 : CC := .loop (.seq c212_2 (.seq (.cond (.t p9) .skip (.exit 0)) (.seq (.blk 1 (.seq c212_3 (.seq c212_4 (.cond (.t p16) (.seq c212_5 .ret) .skip)))) c212_6)))
def c212_8 : CC := .reg [
  .mk (some p4) none (.mv (.c (.int .i64 (-1)))) [] 0] false
def F212 : CF := .mk 19 [p0, p1] 5 (.seq c212_0 (.seq (.seq c212_1 (.blk 0 c212_7)) (.seq c212_8 .ret))) [.t p4] 1
/- slices.order2CmpFunc[daybook/api.Branch] -/
def c213_0 : CC := .reg [
  .mk (some p10) none (.mv (.c (.int .i64 0))) [] 0,
  .mk (some p11) none (.mv (.c (.int .i64 0))) [] 1] false
def c213_1 : CC := .reg [
  .mk (some p12) none (.mv (.t p4)) [] 0,
  .mk (some p13) none (.mv (.t p0)) [] 1,
  .mk (some p14) none (.mv (.t p2)) [] 2,
  .mk (some p15) none (.iaddr 3 (.t p13) (.t p14)) [] 3,
  .mk (some p16) none (.load 3 true (.t p15)) [] 4,
  .mk (some p17) none (.mv (.t p0)) [] 5,
  .mk (some p18) none (.mv (.t p1)) [] 6,
  .mk (some p19) none (.iaddr 3 (.t p17) (.t p18)) [] 7,
  .mk (some p20) none (.load 3 true (.t p19)) [] 8,
  .mk (some p21) none (.call (.t p12) [(.t p16), (.t p20)]) [] 9,
  .mk (some p22) none (.bin .lss .num (.t p21) (.c (.int .i64 0))) [] 10] true
def c213_2 : CC := .reg [
  .mk (some p23) none (.mv (.t p3)) [] 0,
  .mk (some p24) none (.nilck (.t p23)) [] 1,
  .mk (some p25) none (.load 1 false (.t p24)) [] 2,
  .mk (some p26) none (.bin .add .num (.t p25) (.c (.int .i64 1))) [] 3,
  .mk (some p27) none (.nilck (.t p23)) [] 4,
  .mk none none (.store 1 (.t p27) (.t p26)) [] 5] false
def c213_3 : CC := .reg [
  .mk (some p28) none (.mv (.t p2)) [] 0,
  .mk (some p29) none (.mv (.t p1)) [] 1,
  .mk (some p10) none (.mv (.t p28)) [] 2,
  .mk (some p11) none (.mv (.t p29)) [] 3] false
def c213_4 : CC := .reg [
  .mk (some p30) none (.mv (.t p1)) [] 0,
  .mk (some p31) none (.mv (.t p2)) [] 1,
  .mk (some p10) none (.mv (.t p30)) [] 2,
  .mk (some p11) none (.mv (.t p31)) [] 3] false
def F213 : CF := .mk 32 [p0, p1, p2, p3, p4] 6 (.seq c213_0 (.seq (.seq c213_1 (.cond (.t p22) (.seq c213_2 (.seq c213_3 .ret)) .skip)) (.seq c213_4 .ret))) [.t p10, .t p11] 0
end Go.EV
