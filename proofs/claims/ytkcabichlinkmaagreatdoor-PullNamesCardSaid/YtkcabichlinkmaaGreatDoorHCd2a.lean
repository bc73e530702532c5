/- Compiled functions, by program. -/
import Derived.Test.YtkcabichlinkmaaGreatDoorHM7
namespace Go.EV
/- daybook/daybooklaw20.PullNames -/
def c9_0 : CC := .reg [
  .mk (some p0) none (.mv (.c (.bool false))) [] 0] false
def c9_1 : CC := .reg [
  .mk (some p13) none (.call (.c (.fn 31 [])) []) [] 0,
  .mk (some p14) none (.call (.c (.fn 32 [])) []) [] 1,
  .mk (some p15) none (.build [(.bool false), (.str []), (.bool false), (.int .i64 0), (.bool false), (.int .i64 0), (.int .i64 0), (.str []), (.bool false), .nils, (.int .i64 0)] [(1, 1, (.c (.str [97, 47, 110])))]) [] 2,
  .mk (some p16) none (.bslice 44 11 [(.bool false), (.str []), (.bool false), (.int .i64 0), (.bool false), (.int .i64 0), (.int .i64 0), (.str []), (.bool false), .nils, (.int .i64 0)] 1 [(0, (.t p15))]) [] 3,
  .mk (some p17) none (.call (.c (.fn 27 [])) [(.t p13), (.t p14), (.c (.int .i64 20)), (.t p16)]) [] 4,
  .mk (some p12) none (.mv (.t p17)) [] 5,
  .mk (some p18) none (.ext 0 (.t p12)) [] 6,
  .mk (some p19) none (.ext 1 (.t p12)) [] 7,
  .mk (some p1) none (.mv (.t p18)) [] 8,
  .mk (some p2) none (.mv (.t p19)) [] 9] false
def c9_2 : CC := .reg [
  .mk (some p21) none (.call (.c (.fn 32 [])) []) [] 0,
  .mk (some p22) none (.build [(.bool false), (.str []), (.bool false), (.int .i64 0), (.bool false), (.int .i64 0), (.int .i64 0), (.str []), (.bool false), .nils, (.int .i64 0)] []) [] 1,
  .mk (some p23) none (.bslice 44 11 [(.bool false), (.str []), (.bool false), (.int .i64 0), (.bool false), (.int .i64 0), (.int .i64 0), (.str []), (.bool false), .nils, (.int .i64 0)] 1 [(0, (.t p22))]) [] 2,
  .mk (some p24) none (.call (.c (.fn 27 [])) [(.c .nils), (.t p21), (.c (.int .i64 20)), (.t p23)]) [] 3,
  .mk (some p20) none (.mv (.t p24)) [] 4,
  .mk (some p25) none (.ext 0 (.t p20)) [] 5,
  .mk (some p26) none (.ext 1 (.t p20)) [] 6,
  .mk (some p3) none (.mv (.t p25)) [] 7,
  .mk (some p4) none (.mv (.t p26)) [] 8] false
def c9_3 : CC := .reg [
  .mk (some p28) none (.build [(.int .i64 0), (.int .i64 0), (.int .i64 0), (.int .i64 0), (.str []), .nils] []) [] 0,
  .mk (some p29) none (.bslice 71 6 [(.int .i64 0), (.int .i64 0), (.int .i64 0), (.int .i64 0), (.str []), .nils] 1 [(0, (.t p28))]) [] 1,
  .mk (some p30) none (.call (.c (.fn 27 [])) [(.c .nils), (.t p29), (.c (.int .i64 20)), (.c .nils)]) [] 2,
  .mk (some p27) none (.mv (.t p30)) [] 3,
  .mk (some p31) none (.ext 0 (.t p27)) [] 4,
  .mk (some p32) none (.ext 1 (.t p27)) [] 5,
  .mk (some p5) none (.mv (.t p31)) [] 6,
  .mk (some p6) none (.mv (.t p32)) [] 7] false
def c9_4 : CC := .reg [
  .mk (some p34) none (.build [(.str []), (.bool false), .nils] [(0, 1, (.c (.str [97, 47, 110])))]) [] 0,
  .mk (some p35) none (.bslice 74 3 [(.str []), (.bool false), .nils] 1 [(0, (.t p34))]) [] 1,
  .mk (some p36) none (.call (.c (.fn 33 [])) [(.t p35)]) [] 2,
  .mk (some p33) none (.mv (.t p36)) [] 3,
  .mk (some p37) none (.ext 0 (.t p33)) [] 4,
  .mk (some p38) none (.ext 1 (.t p33)) [] 5,
  .mk (some p7) none (.alloc 36 [(.int .i64 0), (.int .i64 0), (.int .i64 0), (.str []), (.str []), .nils, (.int .i64 0), (.int .i64 0)]) [] 6,
  .mk none none (.store 8 (.t p7) (.t p37)) [] 7,
  .mk (some p8) none (.mv (.t p38)) [] 8] false
def c9_5 : CC := .reg [
  .mk (some p40) none (.build [(.int .i64 0), (.int .i64 0), (.int .i64 0), (.str []), (.str []), .nils, (.int .i64 0), (.int .i64 0)] []) [] 0,
  .mk (some p41) none (.call (.c (.fn 34 [])) [(.t p40)]) [] 1,
  .mk (some p39) none (.mv (.t p41)) [] 2,
  .mk (some p42) none (.ext 0 (.t p39)) [] 3,
  .mk (some p43) none (.ext 1 (.t p39)) [] 4,
  .mk (some p9) none (.mv (.t p42)) [] 5,
  .mk (some p10) none (.mv (.t p43)) [] 6] false
def c9_6 : CC := .reg [
  .mk (some p44) none (.call (.c (.fn 35 [])) [(.c (.int .i64 21)), (.c (.str [91, 40, 58, 97, 47, 107, 105, 100, 32, 98, 97, 99, 107, 41, 93]))]) [] 0,
  .mk (some p45) none (.bin .eql .num (.t p44) (.c (.str [123, 40, 58, 97, 47, 107, 105, 100, 32, 98, 97, 99, 107, 41, 32, 91, 64, 50, 48, 93, 125]))) [] 1,
  .mk (some p46) none (.mv (.t p45)) [] 2,
  .mk (some p47) (some (p46, true)) (.call (.c (.fn 35 [])) [(.c (.int .i64 99)), (.c (.str [91, 40, 58, 97, 47, 110, 32, 100, 101, 102, 97, 117, 108, 116, 32, 55, 41, 32, 42, 93]))]) [] 3,
  .mk (some p48) (some (p46, true)) (.bin .eql .num (.t p47) (.c (.str [123, 58, 97, 47, 110, 32, 91, 55, 93, 125]))) [] 4,
  .mk (some p49) none (.pick (.t p46) (.t p48) (.c (.bool false))) [] 5,
  .mk (some p50) none (.mv (.t p49)) [] 6,
  .mk (some p51) (some (p50, true)) (.call (.c (.fn 35 [])) [(.c (.int .i64 20)), (.c (.str [91, 42, 93]))]) [] 7,
  .mk (some p52) (some (p50, true)) (.bin .eql .num (.t p51) (.c (.str [123, 58, 97, 47, 107, 105, 100, 32, 91, 64, 50, 49, 93, 32, 58, 97, 47, 110, 32, 91, 49, 93, 125]))) [] 8,
  .mk (some p53) none (.pick (.t p50) (.t p52) (.c (.bool false))) [] 9,
  .mk (some p54) none (.mv (.t p53)) [] 10,
  .mk (some p55) (some (p54, true)) (.call (.c (.fn 35 [])) [(.c (.int .i64 20)), (.c (.str [91, 123, 58, 97, 47, 107, 105, 100, 32, 49, 125, 93]))]) [] 11,
  .mk (some p56) (some (p54, true)) (.bin .eql .num (.t p55) (.c (.str [123, 58, 97, 47, 107, 105, 100, 32, 91, 40, 64, 50, 49, 32, 123, 58, 97, 47, 107, 105, 100, 32, 91, 64, 50, 48, 93, 125, 41, 93, 125]))) [] 12,
  .mk (some p57) none (.pick (.t p54) (.t p56) (.c (.bool false))) [] 13,
  .mk (some p58) none (.mv (.t p57)) [] 14,
  .mk (some p59) (some (p58, true)) (.call (.c (.fn 35 [])) [(.c (.int .i64 20)), (.c (.str [91, 93]))]) [] 15,
  .mk (some p60) (some (p58, true)) (.bin .eql .num (.t p59) (.c (.str [123, 125]))) [] 16,
  .mk (some p61) none (.pick (.t p58) (.t p60) (.c (.bool false))) [] 17,
  .mk (some p62) none (.mv (.t p61)) [] 18,
  .mk (some p63) (some (p62, true)) (.call (.c (.fn 35 [])) [(.c (.int .i64 20)), (.c (.str [91, 123, 58, 97, 47, 107, 105, 100, 32, 91, 123, 40, 58, 97, 47, 107, 105, 100, 32, 98, 97, 99, 107, 41, 32, 91, 58, 97, 47, 110, 93, 125, 93, 125, 93]))]) [] 19,
  .mk (some p64) (some (p62, true)) (.bin .eql .num (.t p63) (.c (.str [123, 58, 97, 47, 107, 105, 100, 32, 91, 40, 64, 50, 49, 32, 123, 40, 58, 97, 47, 107, 105, 100, 32, 98, 97, 99, 107, 41, 32, 91, 40, 64, 50, 48, 32, 123, 58, 97, 47, 110, 32, 91, 49, 93, 125, 41, 93, 125, 41, 93, 125]))) [] 20,
  .mk (some p65) none (.pick (.t p62) (.t p64) (.c (.bool false))) [] 21,
  .mk (some p11) none (.mv (.t p65)) [] 22] false
def c9_7 : CC := .reg [
  .mk (some p66) none (.mv (.c (.bool true))) [] 0,
  .mk (some p67) (some (p66, true)) (.call (.c (.fn 24 [])) []) [] 1,
  .mk (some p68) none (.pick (.t p66) (.t p67) (.c (.bool false))) [] 2,
  .mk (some p69) none (.mv (.t p68)) [] 3,
  .mk (some p70) (some (p69, true)) (.mv (.t p11)) [] 4,
  .mk (some p71) none (.pick (.t p69) (.t p70) (.c (.bool false))) [] 5,
  .mk (some p72) none (.mv (.t p71)) [] 6,
  .mk (some p73) (some (p72, true)) (.mv (.t p2)) [] 7,
  .mk (some p74) (some (p72, true)) (.bin .eql .num (.t p73) (.c (.int .i64 200))) [] 8,
  .mk (some p75) none (.pick (.t p72) (.t p74) (.c (.bool false))) [] 9,
  .mk (some p76) none (.mv (.t p75)) [] 10,
  .mk (some p77) (some (p76, true)) (.mv (.t p4)) [] 11,
  .mk (some p78) (some (p76, true)) (.bin .eql .num (.t p77) (.c (.int .i64 190))) [] 12,
  .mk (some p79) none (.pick (.t p76) (.t p78) (.c (.bool false))) [] 13,
  .mk (some p80) none (.mv (.t p79)) [] 14,
  .mk (some p81) (some (p80, true)) (.mv (.t p6)) [] 15,
  .mk (some p82) (some (p80, true)) (.bin .eql .num (.t p81) (.c (.int .i64 60))) [] 16,
  .mk (some p83) none (.pick (.t p80) (.t p82) (.c (.bool false))) [] 17,
  .mk (some p84) none (.mv (.t p83)) [] 18,
  .mk (some p85) (some (p84, true)) (.mv (.t p8)) [] 19,
  .mk (some p86) (some (p84, true)) (.bin .eql .num (.t p85) (.c (.int .i64 200))) [] 20,
  .mk (some p87) none (.pick (.t p84) (.t p86) (.c (.bool false))) [] 21,
  .mk (some p88) none (.mv (.t p87)) [] 22,
  .mk (some p89) (some (p88, true)) (.mv (.t p10)) [] 23,
  .mk (some p90) (some (p88, true)) (.bin .eql .num (.t p89) (.c (.int .i64 200))) [] 24,
  .mk (some p91) none (.pick (.t p88) (.t p90) (.c (.bool false))) [] 25,
  .mk (some p0) none (.mv (.t p91)) [] 26] false
def F9 : CF := .mk 92 [] 7 (.seq c9_0 (.seq c9_1 (.seq c9_2 (.seq c9_3 (.seq c9_4 (.seq c9_5 (.seq c9_6 (.seq c9_7 .ret)))))))) [.t p0] 1
/- daybook/shape.Parse -/
def c11_0 : CC := .reg [
  .mk (some p2) none (.mv (.c .nils)) [] 0,
  .mk (some p3) none (.mv (.c (.int .i64 0))) [] 1] false
def c11_1 : CC := .reg [
  .mk (some p9) none (.mv (.t p0)) [] 0,
  .mk (some p10) none (.call (.c (.fn 38 [])) [(.t p9)]) [] 1,
  .mk (some p8) none (.mv (.t p10)) [] 2,
  .mk (some p11) none (.ext 0 (.t p8)) [] 3,
  .mk (some p12) none (.ext 1 (.t p8)) [] 4,
  .mk (some p13) none (.ext 2 (.t p8)) [] 5,
  .mk (some p14) none (.ext 3 (.t p8)) [] 6,
  .mk (some p4) none (.mv (.t p11)) [] 7,
  .mk (some p5) none (.mv (.t p12)) [] 8,
  .mk (some p6) none (.mv (.t p13)) [] 9,
  .mk (some p7) none (.mv (.t p14)) [] 10] false
def c11_2 : CC := .reg [
  .mk (some p15) none (.mv (.t p7)) [] 0,
  .mk (some p16) none (.bin .neq .num (.t p15) (.c (.int .i64 0))) [] 1] false
def c11_3 : CC := .reg [
  .mk (some p17) none (.mv (.t p7)) [] 0,
  .mk (some p2) none (.mv (.c .nils)) [] 1,
  .mk (some p3) none (.mv (.t p17)) [] 2] false
def c11_4 : CC := .reg [
  .mk (some p18) none (.mv (.t p4)) [] 0,
  .mk (some p19) none (.len 1 (.t p18)) [] 1,
  .mk (some p20) none (.bin .neq .num (.t p19) (.c (.int .i64 1))) [] 2] false
def c11_5 : CC := .reg [
  .mk (some p2) none (.mv (.c .nils)) [] 0,
  .mk (some p3) none (.mv (.c (.int .i64 190))) [] 1] false
def c11_6 : CC := .reg [
  .mk (some p21) none (.mv (.t p4)) [] 0,
  .mk (some p22) none (.iaddr 8 (.t p21) (.c (.int .i64 0))) [] 1,
  .mk (some p23) none (.load 8 true (.t p22)) [] 2,
  .mk (some p24) none (.call (.c (.fn 15 [])) [(.t p23)]) [] 3,
  .mk (some p25) none (.ext 0 (.t p24)) [] 4,
  .mk (some p26) none (.ext 1 (.t p24)) [] 5,
  .mk (some p2) none (.mv (.t p25)) [] 6,
  .mk (some p3) none (.mv (.t p26)) [] 7] false
def F11 : CF := .mk 27 [p0] 5 (.seq c11_0 (.seq c11_1 (.seq (.seq c11_2 (.cond (.t p16) (.seq c11_3 .ret) .skip)) (.seq (.seq c11_4 (.cond (.t p20) (.seq c11_5 .ret) .skip)) (.seq c11_6 .ret))))) [.t p2, .t p3] 1
/- daybook/shape.Read -/
def c15_0 : CC := .reg [
  .mk (some p1) none (.box 36 (.t p0)) [] 0,
  .mk (some p2) none (.mv (.c .nils)) [] 1,
  .mk (some p3) none (.mv (.c (.int .i64 0))) [] 2] false
def c15_1 : CC := .reg [
  .mk (some p7) none (.load 8 true (.t p1)) [] 0,
  .mk (some p8) none (.call (.c (.fn 41 [])) [(.t p7), (.c (.int .i64 1))]) [] 1,
  .mk (some p6) none (.mv (.t p8)) [] 2,
  .mk (some p9) none (.ext 0 (.t p6)) [] 3,
  .mk (some p10) none (.ext 1 (.t p6)) [] 4,
  .mk (some p4) none (.mv (.t p9)) [] 5,
  .mk (some p5) none (.mv (.t p10)) [] 6] false
def c15_2 : CC := .reg [
  .mk (some p11) none (.mv (.t p5)) [] 0,
  .mk (some p12) none (.un .not (.t p11)) [] 1,
  .mk (some p13) none (.mv (.t p12)) [] 2,
  .mk (some p14) (some (p13, false)) (.mv (.t p4)) [] 3,
  .mk (some p15) (some (p13, false)) (.call (.c (.fn 42 [])) [(.t p14)]) [] 4,
  .mk (some p16) (some (p13, false)) (.un .not (.t p15)) [] 5,
  .mk (some p17) none (.pick (.t p13) (.c (.bool true)) (.t p16)) [] 6] false
def c15_3 : CC := .reg [
  .mk (some p2) none (.mv (.c .nils)) [] 0,
  .mk (some p3) none (.mv (.c (.int .i64 190))) [] 1] false
def c15_4 : CC := .reg [
  .mk (some p18) none (.load 8 true (.t p1)) [2] 0,
  .mk (some p19) none (.mv (.t p4)) [] 1,
  .mk (some p20) none (.call (.c (.fn 44 [])) [(.t p19)]) [] 2,
  .mk (some p21) none (.call (.c (.fn 43 [])) [(.t p18), (.t p20)]) [] 3,
  .mk (some p22) none (.un .not (.t p21)) [] 4] true
def c15_5 : CC := .reg [
  .mk (some p2) none (.mv (.c .nils)) [] 0,
  .mk (some p3) none (.mv (.c (.int .i64 190))) [] 1] false
def c15_6 : CC := .reg [
  .mk (some p23) none (.mv (.t p4)) [] 0,
  .mk (some p2) none (.mv (.t p23)) [] 1,
  .mk (some p3) none (.mv (.c (.int .i64 0))) [] 2] false
def F15 : CF := .mk 24 [p0] 5 (.seq c15_0 (.seq c15_1 (.seq (.seq c15_2 (.cond (.t p17) (.seq c15_3 .ret) .skip)) (.seq (.seq c15_4 (.cond (.t p22) (.seq c15_5 .ret) .skip)) (.seq c15_6 .ret))))) [.t p2, .t p3] 1
/- daybook/shape.Check -/
def c19_0 : CC := .reg [
  .mk (some p2) none (.mv (.c (.int .i64 0))) [] 0] false
def c19_1 : CC := .reg [
  .mk (some p3) none (.mv (.t p0)) [] 0,
  .mk (some p4) none (.call (.c (.fn 42 [])) [(.t p3)]) [] 1,
  .mk (some p5) none (.un .not (.t p4)) [] 2] false
def c19_2 : CC := .reg [
  .mk (some p2) none (.mv (.c (.int .i64 190))) [] 0] false
def c19_3 : CC := .reg [
  .mk (some p2) none (.mv (.c (.int .i64 0))) [] 0] false
def F19 : CF := .mk 6 [p0] 3 (.seq c19_0 (.seq (.seq c19_1 (.cond (.t p5) (.seq c19_2 .ret) .skip)) (.seq c19_3 .ret))) [.t p2] 1
/- daybook/daybooklaw20.alive -/
def c24_0 : CC := .reg [
  .mk (some p0) none (.mv (.c (.bool false))) [] 0] false
def c24_1 : CC := .reg [
  .mk (some p1) none (.call (.c (.fn 35 [])) [(.c (.int .i64 20)), (.c (.str [91, 58, 97, 47, 110, 32, 123, 58, 97, 47, 107, 105, 100, 32, 91, 58, 97, 47, 110, 93, 125, 93]))]) [] 0,
  .mk (some p2) none (.bin .eql .num (.t p1) (.c (.str [123, 58, 97, 47, 107, 105, 100, 32, 91, 40, 64, 50, 49, 32, 123, 58, 97, 47, 110, 32, 91, 50, 93, 125, 41, 93, 32, 58, 97, 47, 110, 32, 91, 49, 93, 125]))) [] 1,
  .mk (some p3) none (.mv (.t p2)) [] 2,
  .mk (some p4) (some (p3, true)) (.call (.c (.fn 35 [])) [(.c (.int .i64 20)), (.c (.str [91, 58, 97, 47, 110, 32, 123, 58, 97, 47, 107, 105, 100, 32, 46, 46, 46, 125, 93]))]) [] 3,
  .mk (some p5) (some (p3, true)) (.bin .eql .num (.t p4) (.c (.str [123, 58, 97, 47, 107, 105, 100, 32, 91, 40, 64, 50, 49, 32, 123, 58, 97, 47, 107, 105, 100, 32, 91, 64, 50, 48, 93, 32, 58, 97, 47, 110, 32, 91, 50, 93, 125, 41, 93, 32, 58, 97, 47, 110, 32, 91, 49, 93, 125]))) [] 4,
  .mk (some p6) none (.pick (.t p3) (.t p5) (.c (.bool false))) [] 5,
  .mk (some p0) none (.mv (.t p6)) [] 6] false
def F24 : CF := .mk 7 [] 3 (.seq c24_0 (.seq c24_1 .ret)) [.t p0] 1
/- daybook/daybookref07.Of -/
def c26_0 : CC := .reg [
  .mk (some p2) none (.mv (.c .nils)) [] 0,
  .mk (some p3) none (.mv (.c (.int .i64 0))) [] 1] false
def c26_1 : CC := .reg [
  .mk (some p11) none (.mv (.t p0)) [] 0,
  .mk (some p12) none (.call (.c (.fn 52 [])) [(.t p11)]) [] 1,
  .mk (some p4) none (.mv (.t p12)) [] 2] false
def c26_2 : CC := .reg [
  .mk (some p13) none (.mv (.t p4)) [] 0,
  .mk (some p14) none (.un .not (.t p13)) [] 1] false
def c26_3 : CC := .reg [
  .mk (some p2) none (.mv (.c .nils)) [] 0,
  .mk (some p3) none (.mv (.c (.int .i64 60))) [] 1] false
def c26_4 : CC := .reg [
  .mk (some p15) none (.call (.c (.fn 31 [])) []) [] 0,
  .mk (some p5) none (.mv (.t p15)) [] 1] false
def c26_5 : CC := .reg [
  .mk (some p6) none (.mv (.c (.int .i64 0))) [] 0] false
def c26_6 : CC := .reg [
  .mk (some p16) none (.mv (.t p6)) [] 0,
  .mk (some p17) none (.mv (.t p0)) [] 1,
  .mk (some p18) none (.len 1 (.t p17)) [] 2,
  .mk (some p19) none (.bin .lss .num (.t p16) (.t p18)) [] 3] false
def c26_7 : CC := .reg [
  .mk (some p22) none (.mv (.t p6)) [] 0,
  .mk (some p23) none (.bin .gtr .num (.t p22) (.c (.int .i64 0))) [] 1,
  .mk (some p24) none (.mv (.t p23)) [] 2,
  .mk (some p25) (some (p24, true)) (.mv (.t p0)) [] 3,
  .mk (some p26) (some (p24, true)) (.mv (.t p6)) [] 4,
  .mk (some p27) (some (p24, true)) (.iaddr 6 (.t p25) (.t p26)) [] 5,
  .mk (some p28) (some (p24, true)) (.faddr 0 (.t p27)) [] 6,
  .mk (some p29) (some (p24, true)) (.load 1 false (.t p28)) [] 7,
  .mk (some p30) (some (p24, true)) (.mv (.t p0)) [] 8,
  .mk (some p31) (some (p24, true)) (.mv (.t p6)) [] 9,
  .mk (some p32) (some (p24, true)) (.bin .sub .num (.t p31) (.c (.int .i64 1))) [] 10,
  .mk (some p33) (some (p24, true)) (.iaddr 6 (.t p30) (.t p32)) [] 11,
  .mk (some p34) (some (p24, true)) (.faddr 0 (.t p33)) [] 12,
  .mk (some p35) (some (p24, true)) (.load 1 false (.t p34)) [] 13,
  .mk (some p36) (some (p24, true)) (.bin .eql .num (.t p29) (.t p35)) [] 14,
  .mk (some p37) none (.pick (.t p24) (.t p36) (.c (.bool false))) [] 15] true
def c26_8 : CC := .reg [
  .mk (some p39) none (.mv (.t p0)) [] 0,
  .mk (some p40) none (.mv (.t p0)) [] 1,
  .mk (some p41) none (.mv (.t p6)) [] 2,
  .mk (some p42) none (.iaddr 6 (.t p40) (.t p41)) [] 3,
  .mk (some p43) none (.faddr 0 (.t p42)) [] 4,
  .mk (some p44) none (.load 1 false (.t p43)) [] 5,
  .mk (some p45) none (.call (.c (.fn 53 [])) [(.t p39), (.t p44)]) [] 6,
  .mk (some p38) none (.mv (.t p45)) [] 7,
  .mk (some p46) none (.ext 0 (.t p38)) [] 8,
  .mk (some p47) none (.ext 1 (.t p38)) [] 9,
  .mk (some p7) none (.alloc 66 [(.int .i64 0), (.str []), (.int .i64 0), (.bool false), (.int .i64 0), (.bool false), (.bool false)]) [] 10,
  .mk none none (.store 7 (.t p7) (.t p46)) [] 11,
  .mk (some p8) none (.mv (.t p47)) [] 12] false
def c26_9 : CC := .reg [
  .mk (some p48) none (.mv (.t p8)) [] 0] false
def c26_10 : CC := .reg [
  .mk (some p49) none (.mv (.t p5)) [] 0,
  .mk (some p50) none (.load 7 true (.t p7)) [] 1,
  .mk (some p51) none (.bslice 66 7 [(.int .i64 0), (.str []), (.int .i64 0), (.bool false), (.int .i64 0), (.bool false), (.bool false)] 1 [(0, (.t p50))]) [] 2,
  .mk (some p52) none (.append 66 7 (.t p49) (.t p51)) [] 3,
  .mk (some p5) none (.mv (.t p52)) [] 4] false
def c26_11 : CC := .reg [
  .mk (some p20) none (.mv (.t p6)) [] 0,
  .mk (some p21) none (.bin .add .num (.t p20) (.c (.int .i64 1))) [] 1,
  .mk (some p6) none (.mv (.t p21)) [] 2] false
def c26_12 : CC := .loop (.seq (.seq c26_6 (.cond (.t p19) .skip (.exit 0))) (.seq (.blk 1 (.seq (.seq c26_7 (.cond (.t p37) (.exit 1) .skip)) (.seq c26_8 (.seq c26_9 (.cond (.t p48) c26_10 .skip))))) c26_11))
def c26_13 : CC := .reg [
  .mk (some p9) none (.mv (.c (.int .i64 0))) [] 0] false
def c26_14 : CC := .reg [
  .mk (some p53) none (.mv (.t p9)) [] 0,
  .mk (some p54) none (.mv (.t p5)) [] 1,
  .mk (some p55) none (.len 1 (.t p54)) [] 2,
  .mk (some p56) none (.bin .lss .num (.t p53) (.t p55)) [] 3] false
def c26_15 : CC := .reg [
  .mk (some p10) none (.mv (.c (.int .i64 0))) [] 0] false
def c26_16 : CC := .reg [
  .mk (some p59) none (.mv (.t p10)) [] 0,
  .mk (some p60) none (.mv (.t p9)) [] 1,
  .mk (some p61) none (.bin .lss .num (.t p59) (.t p60)) [] 2] false
def c26_17 : CC := .reg [
  .mk (some p64) none (.mv (.t p5)) [] 0,
  .mk (some p65) none (.mv (.t p9)) [] 1,
  .mk (some p66) none (.iaddr 7 (.t p64) (.t p65)) [] 2,
  .mk (some p67) none (.faddr 1 (.t p66)) [] 3,
  .mk (some p68) none (.load 1 false (.t p67)) [] 4,
  .mk (some p69) none (.mv (.t p5)) [] 5,
  .mk (some p70) none (.mv (.t p10)) [] 6,
  .mk (some p71) none (.iaddr 7 (.t p69) (.t p70)) [] 7,
  .mk (some p72) none (.faddr 1 (.t p71)) [] 8,
  .mk (some p73) none (.load 1 false (.t p72)) [] 9,
  .mk (some p74) none (.bin .eql .num (.t p68) (.t p73)) [] 10] true
def c26_18 : CC := .reg [
  .mk (some p2) none (.mv (.c .nils)) [] 0,
  .mk (some p3) none (.mv (.c (.int .i64 70))) [] 1] false
def c26_19 : CC := .reg [
  .mk (some p62) none (.mv (.t p10)) [] 0,
  .mk (some p63) none (.bin .add .num (.t p62) (.c (.int .i64 1))) [] 1,
  .mk (some p10) none (.mv (.t p63)) [] 2] false
def c26_20 : CC := .loop (.seq (.seq c26_16 (.cond (.t p61) .skip (.exit 4))) (.seq (.blk 5 (.seq c26_17 (.cond (.t p74) (.seq c26_18 .ret) .skip))) c26_19))
def c26_21 : CC := .reg [
  .mk (some p57) none (.mv (.t p9)) [] 0,
  .mk (some p58) none (.bin .add .num (.t p57) (.c (.int .i64 1))) [] 1,
  .mk (some p9) none (.mv (.t p58)) [] 2] false
def c26_22 : CC := .loop (.seq (.seq c26_14 (.cond (.t p56) .skip (.exit 2))) (.seq (.blk 3 (.seq c26_15 (.blk 4 c26_20))) c26_21))
def c26_23 : CC := .reg [
  .mk (some p75) none (.mv (.t p5)) [] 0,
  .mk (some p2) none (.mv (.t p75)) [] 1,
  .mk (some p3) none (.mv (.c (.int .i64 0))) [] 2] false
def F26 : CF := .mk 76 [p0] 7 (.seq c26_0 (.seq c26_1 (.seq (.seq c26_2 (.cond (.t p14) (.seq c26_3 .ret) .skip)) (.seq c26_4 (.seq (.seq c26_5 (.blk 0 c26_12)) (.seq (.seq c26_13 (.blk 2 c26_22)) (.seq c26_23 .ret))))))) [.t p2, .t p3] 1
/- daybook/pull.Pull -/
def c27_0 : CC := .reg [
  .mk (some p8) none (.mv (.c .nils)) [] 0,
  .mk (some p9) none (.mv (.c (.int .i64 0))) [] 1] false
def c27_1 : CC := .reg [
  .mk (some p17) none (.mv (.t p3)) [] 0,
  .mk (some p18) none (.call (.c (.fn 19 [])) [(.t p17)]) [] 1,
  .mk (some p19) none (.bin .neq .num (.t p18) (.c (.int .i64 0))) [] 2] false
def c27_2 : CC := .reg [
  .mk (some p8) none (.mv (.c .nils)) [] 0,
  .mk (some p9) none (.mv (.c (.int .i64 190))) [] 1] false
def c27_3 : CC := .reg [
  .mk (some p20) none (.mv (.t p1)) [] 0,
  .mk (some p21) none (.call (.c (.fn 54 [])) [(.t p20)]) [] 1,
  .mk (some p10) none (.mv (.t p21)) [] 2] false
def c27_4 : CC := .reg [
  .mk (some p22) none (.mv (.t p10)) [] 0,
  .mk (some p23) none (.bin .neq .num (.t p22) (.c (.int .i64 0))) [] 1] false
def c27_5 : CC := .reg [
  .mk (some p24) none (.mv (.t p10)) [] 0,
  .mk (some p8) none (.mv (.c .nils)) [] 1,
  .mk (some p9) none (.mv (.t p24)) [] 2] false
def c27_6 : CC := .reg [
  .mk (some p25) none (.mv (.t p1)) [] 0,
  .mk (some p26) none .mkmap [] 1,
  .mk (some p27) none (.build [.nils, .nilm, .nils, (.int .i64 0), (.bool false)] [(0, 1, (.t p25)), (1, 1, (.t p26))]) [] 2,
  .mk (some p28) none (.box 107 (.t p27)) [] 3,
  .mk (some p11) none (.mv (.t p28)) [] 4] false
def c27_7 : CC := .reg [
  .mk (some p29) none (.mv (.t p0)) [] 0,
  .mk (some p30) none (.len 1 (.t p29)) [] 1,
  .mk (some p31) none (.mv (.c (.int .i64 0))) [] 2] false
def c27_8 : CC := .reg [
  .mk (some p32) none (.bin .lss .num (.t p31) (.t p30)) [] 0] false
def c27_9 : CC := .reg [
  .mk (some p33) none (.iaddr 7 (.t p29) (.t p31)) [] 0,
  .mk (some p34) none (.load 7 true (.t p33)) [] 1,
  .mk (some p13) none (.alloc 66 [(.int .i64 0), (.str []), (.int .i64 0), (.bool false), (.int .i64 0), (.bool false), (.bool false)]) [] 2,
  .mk none none (.store 7 (.t p13) (.t p34)) [] 3] false
def c27_10 : CC := .reg [
  .mk (some p36) none (.mv (.t p11)) [] 0,
  .mk (some p37) none (.nilck (.t p36)) [] 1,
  .mk (some p38) none (.faddr 1 (.t p37)) [] 2,
  .mk (some p39) none (.load 1 false (.t p38)) [] 3,
  .mk (some p40) none (.faddr 1 (.t p13)) [] 4,
  .mk (some p41) none (.load 1 false (.t p40)) [] 5,
  .mk (some p42) none (.lookup true (.int .i64 0) true (.t p39) (.t p41)) [] 6,
  .mk (some p35) none (.mv (.t p42)) [] 7,
  .mk (some p43) none (.ext 0 (.t p35)) [] 8,
  .mk (some p44) none (.ext 1 (.t p35)) [] 9,
  .mk (some p14) none (.mv (.t p43)) [] 10,
  .mk (some p15) none (.mv (.t p44)) [] 11] true
def c27_11 : CC := .reg [
  .mk (some p45) none (.mv (.t p15)) [] 0,
  .mk (some p46) none (.un .not (.t p45)) [] 1] false
def c27_12 : CC := .reg [
  .mk (some p47) none (.mv (.t p11)) [] 0,
  .mk (some p48) none (.nilck (.t p47)) [] 1,
  .mk (some p49) none (.faddr 1 (.t p48)) [] 2,
  .mk (some p50) none (.load 1 false (.t p49)) [] 3,
  .mk (some p51) none (.faddr 1 (.t p13)) [] 4,
  .mk (some p52) none (.load 1 false (.t p51)) [] 5,
  .mk (some p53) none (.faddr 0 (.t p13)) [] 6,
  .mk (some p54) none (.load 1 false (.t p53)) [] 7,
  .mk none none (.mapup true (.t p50) (.t p52) (.t p54)) [] 8] true
def c27_13 : CC := .reg [
  .mk (some p55) none (.mv (.t p11)) [] 0,
  .mk (some p56) none (.mv (.t p11)) [] 1,
  .mk (some p57) none (.nilck (.t p56)) [] 2,
  .mk (some p58) none (.faddr 2 (.t p57)) [] 3,
  .mk (some p59) none (.load 1 false (.t p58)) [] 4,
  .mk (some p60) none (.load 7 true (.t p13)) [] 5,
  .mk (some p61) none (.bslice 66 7 [(.int .i64 0), (.str []), (.int .i64 0), (.bool false), (.int .i64 0), (.bool false), (.bool false)] 1 [(0, (.t p60))]) [] 6,
  .mk (some p62) none (.append 66 7 (.t p59) (.t p61)) [] 7,
  .mk (some p63) none (.nilck (.t p55)) [] 8,
  .mk (some p64) none (.faddr 2 (.t p63)) [] 9,
  .mk none none (.store 1 (.t p64) (.t p62)) [] 10] true
def c27_14 : CC := .reg [
  .mk (some p65) none (.bin .add .num (.t p31) (.c (.int .i64 1))) [] 0,
  .mk (some p31) none (.mv (.t p65)) [] 1] false
def c27_15 : CC := .loop (.seq c27_8 (.seq (.cond (.t p32) .skip (.exit 0)) (.seq (.blk 1 (.seq c27_9 (.seq c27_10 (.seq c27_11 (.cond (.t p46) (.seq c27_12 c27_13) .skip))))) c27_14)))
def c27_16 : CC := .reg [
  .mk (some p66) none (.mv (.t p11)) [] 0,
  .mk (some p67) none (.mv (.t p3)) [] 1,
  .mk (some p68) none (.call (.c (.fn 55 [])) [(.t p66), (.t p67)]) [] 2,
  .mk (some p69) none (.un .not (.t p68)) [] 3] false
def c27_17 : CC := .reg [
  .mk (some p8) none (.mv (.c .nils)) [] 0,
  .mk (some p9) none (.mv (.c (.int .i64 200))) [] 1] false
def c27_18 : CC := .reg [
  .mk (some p70) none (.mv (.t p11)) [] 0,
  .mk (some p71) none (.mv (.t p2)) [] 1,
  .mk (some p72) none (.mv (.t p3)) [] 2,
  .mk (some p73) none (.mv (.t p2)) [] 3,
  .mk (some p74) none (.bslice 2 1 [(.int .i64 0)] 1 [(0, (.t p73))]) [] 4,
  .mk (some p75) none (.call (.c (.fn 56 [])) [(.t p70), (.t p71), (.t p72), (.t p74)]) [] 5,
  .mk (some p16) none (.mv (.t p75)) [] 6] false
def c27_19 : CC := .reg [
  .mk (some p76) none (.mv (.t p11)) [] 0,
  .mk (some p77) none (.nilck (.t p76)) [] 1,
  .mk (some p78) none (.faddr 4 (.t p77)) [] 2,
  .mk (some p79) none (.load 1 false (.t p78)) [] 3] false
def c27_20 : CC := .reg [
  .mk (some p8) none (.mv (.c .nils)) [] 0,
  .mk (some p9) none (.mv (.c (.int .i64 201))) [] 1] false
def c27_21 : CC := .reg [
  .mk (some p80) none (.mv (.t p16)) [] 0,
  .mk (some p8) none (.mv (.t p80)) [] 1,
  .mk (some p9) none (.mv (.c (.int .i64 0))) [] 2] false
def F27 : CF := .mk 81 [p0, p1, p2, p3] 7 (.seq c27_0 (.seq (.seq c27_1 (.cond (.t p19) (.seq c27_2 .ret) .skip)) (.seq (.seq c27_3 (.seq c27_4 (.cond (.t p23) (.seq c27_5 .ret) .skip))) (.seq c27_6 (.seq (.seq c27_7 (.blk 0 c27_15)) (.seq (.seq c27_16 (.cond (.t p69) (.seq c27_17 .ret) .skip)) (.seq c27_18 (.seq (.seq c27_19 (.cond (.t p79) (.seq c27_20 .ret) .skip)) (.seq c27_21 .ret))))))))) [.t p8, .t p9] 1
/- daybook/daybookref07.Builtin -/
def c31_0 : CC := .reg [
  .mk (some p0) none (.mv (.c .nils)) [] 0] false
def c31_1 : CC := .reg [
  .mk (some p6) none (.bslice 9 1 [(.str [])] 7 [(0, (.c (.str [110, 97, 109, 101]))), (1, (.c (.str [116, 121, 112, 101]))), (2, (.c (.str [109, 97, 110, 121]))), (3, (.c (.str [117, 110, 105, 113, 117, 101]))), (4, (.c (.str [112, 97, 114, 116]))), (5, (.c (.str [105, 110, 100, 101, 120]))), (6, (.c (.str [100, 111, 99])))]) [] 0,
  .mk (some p1) none (.mv (.t p6)) [] 1] false
def c31_2 : CC := .reg [
  .mk (some p7) none (.bslice 3 1 [(.int .i64 0)] 7 [(0, (.c (.int .i64 7))), (1, (.c (.int .i64 1))), (2, (.c (.int .i64 2))), (3, (.c (.int .i64 1))), (4, (.c (.int .i64 2))), (5, (.c (.int .i64 2))), (6, (.c (.int .i64 3)))]) [] 0,
  .mk (some p2) none (.mv (.t p7)) [] 1] false
def c31_3 : CC := .reg [
  .mk (some p3) none (.mv (.c .nils)) [] 0] false
def c31_4 : CC := .reg [
  .mk (some p4) none (.mv (.c (.int .i64 0))) [] 0] false
def c31_5 : CC := .reg [
  .mk (some p8) none (.mv (.t p4)) [] 0,
  .mk (some p9) none (.bin .lss .num (.t p8) (.c (.int .i64 7))) [] 1] false
def c31_6 : CC := .reg [
  .mk (some p12) none (.mv (.t p4)) [] 0,
  .mk (some p13) none (.bin .add .num (.t p12) (.c (.int .i64 1))) [] 1,
  .mk (some p14) none (.mv (.t p1)) [] 2,
  .mk (some p15) none (.mv (.t p4)) [] 3,
  .mk (some p16) none (.iaddr 1 (.t p14) (.t p15)) [] 4,
  .mk (some p17) none (.load 1 false (.t p16)) [] 5,
  .mk (some p18) none (.bin .add .num (.c (.str [100, 98, 47])) (.t p17)) [] 6,
  .mk (some p19) none (.mv (.t p2)) [] 7,
  .mk (some p20) none (.mv (.t p4)) [] 8,
  .mk (some p21) none (.iaddr 1 (.t p19) (.t p20)) [] 9,
  .mk (some p22) none (.load 1 false (.t p21)) [] 10,
  .mk (some p23) none (.build [(.int .i64 0), (.str []), (.int .i64 0), (.bool false), (.int .i64 0), (.bool false), (.bool false)] [(0, 1, (.t p13)), (1, 1, (.t p18)), (2, 1, (.t p22))]) [] 11,
  .mk (some p5) none (.alloc 66 [(.int .i64 0), (.str []), (.int .i64 0), (.bool false), (.int .i64 0), (.bool false), (.bool false)]) [] 12,
  .mk none none (.store 7 (.t p5) (.t p23)) [] 13] true
def c31_7 : CC := .reg [
  .mk (some p24) none (.mv (.t p4)) [] 0,
  .mk (some p25) none (.bin .eql .num (.t p24) (.c (.int .i64 0))) [] 1] false
def c31_8 : CC := .reg [
  .mk (some p26) none (.faddr 4 (.t p5)) [] 0,
  .mk none none (.store 1 (.t p26) (.c (.int .i64 2))) [] 1] false
def c31_9 : CC := .reg [
  .mk (some p27) none (.mv (.t p3)) [] 0,
  .mk (some p28) none (.load 7 true (.t p5)) [] 1,
  .mk (some p29) none (.bslice 66 7 [(.int .i64 0), (.str []), (.int .i64 0), (.bool false), (.int .i64 0), (.bool false), (.bool false)] 1 [(0, (.t p28))]) [] 2,
  .mk (some p30) none (.append 66 7 (.t p27) (.t p29)) [] 3,
  .mk (some p3) none (.mv (.t p30)) [] 4] false
def c31_10 : CC := .reg [
  .mk (some p10) none (.mv (.t p4)) [] 0,
  .mk (some p11) none (.bin .add .num (.t p10) (.c (.int .i64 1))) [] 1,
  .mk (some p4) none (.mv (.t p11)) [] 2] false
def c31_11 : CC := .loop (.seq (.seq c31_5 (.cond (.t p9) .skip (.exit 0))) (.seq (.blk 1 (.seq c31_6 (.seq (.seq c31_7 (.cond (.t p25) c31_8 .skip)) c31_9))) c31_10))
def c31_12 : CC := .reg [
  .mk (some p31) none (.mv (.t p3)) [] 0,
  .mk (some p0) none (.mv (.t p31)) [] 1] false
def F31 : CF := .mk 32 [] 6 (.seq c31_0 (.seq c31_1 (.seq c31_2 (.seq c31_3 (.seq (.seq c31_4 (.blk 0 c31_11)) (.seq c31_12 .ret)))))) [.t p0] 0
/- daybook/daybooklaw20.few -/
def c32_0 : CC := .reg [
  .mk (some p0) none (.mv (.c .nils)) [] 0] false
def c32_1 : CC := .reg [
  .mk (some p1) none (.build [(.int .i64 0), (.int .i64 0), (.str [])] [(0, 1, (.c (.int .i64 7))), (2, 1, (.c (.str [97, 47, 110])))]) [] 0,
  .mk (some p2) none (.call (.c (.fn 57 [])) [(.c (.int .i64 10)), (.c (.int .i64 1)), (.t p1)]) [] 1,
  .mk (some p3) none (.call (.c (.fn 58 [])) [(.c (.int .i64 1))]) [] 2,
  .mk (some p4) none (.call (.c (.fn 57 [])) [(.c (.int .i64 10)), (.c (.int .i64 2)), (.t p3)]) [] 3,
  .mk (some p5) none (.build [(.int .i64 0), (.int .i64 0), (.str [])] [(0, 1, (.c (.int .i64 7))), (2, 1, (.c (.str [97, 47, 107, 105, 100])))]) [] 4,
  .mk (some p6) none (.call (.c (.fn 57 [])) [(.c (.int .i64 11)), (.c (.int .i64 1)), (.t p5)]) [] 5,
  .mk (some p7) none (.call (.c (.fn 58 [])) [(.c (.int .i64 5))]) [] 6,
  .mk (some p8) none (.call (.c (.fn 57 [])) [(.c (.int .i64 11)), (.c (.int .i64 2)), (.t p7)]) [] 7,
  .mk (some p9) none (.build [(.int .i64 0), (.int .i64 0), (.str [])] [(0, 1, (.c (.int .i64 2))), (1, 1, (.c (.int .i64 1)))]) [] 8,
  .mk (some p10) none (.call (.c (.fn 57 [])) [(.c (.int .i64 11)), (.c (.int .i64 3)), (.t p9)]) [] 9,
  .mk (some p11) none (.call (.c (.fn 58 [])) [(.c (.int .i64 1))]) [] 10,
  .mk (some p12) none (.call (.c (.fn 57 [])) [(.c (.int .i64 20)), (.c (.int .i64 10)), (.t p11)]) [] 11,
  .mk (some p13) none (.call (.c (.fn 59 [])) [(.c (.int .i64 21))]) [] 12,
  .mk (some p14) none (.call (.c (.fn 57 [])) [(.c (.int .i64 20)), (.c (.int .i64 11)), (.t p13)]) [] 13,
  .mk (some p15) none (.call (.c (.fn 58 [])) [(.c (.int .i64 2))]) [] 14,
  .mk (some p16) none (.call (.c (.fn 57 [])) [(.c (.int .i64 21)), (.c (.int .i64 10)), (.t p15)]) [] 15,
  .mk (some p17) none (.call (.c (.fn 59 [])) [(.c (.int .i64 20))]) [] 16,
  .mk (some p18) none (.call (.c (.fn 57 [])) [(.c (.int .i64 21)), (.c (.int .i64 11)), (.t p17)]) [] 17,
  .mk (some p19) none (.bslice 71 6 [(.int .i64 0), (.int .i64 0), (.int .i64 0), (.int .i64 0), (.str []), .nils] 9 [(0, (.t p2)), (1, (.t p4)), (2, (.t p6)), (3, (.t p8)), (4, (.t p10)), (5, (.t p12)), (6, (.t p14)), (7, (.t p16)), (8, (.t p18))]) [] 18,
  .mk (some p0) none (.mv (.t p19)) [] 19] false
def F32 : CF := .mk 20 [] 5 (.seq c32_0 (.seq c32_1 .ret)) [.t p0] 1
/- daybook/pull.Write -/
def c33_0 : CC := .reg [
  .mk (some p2) none (.alloc 36 [(.int .i64 0), (.int .i64 0), (.int .i64 0), (.str []), (.str []), .nils, (.int .i64 0), (.int .i64 0)]) [] 0,
  .mk (some p3) none (.mv (.c (.int .i64 0))) [] 1] false
def c33_1 : CC := .reg [
  .mk (some p4) none (.alloc 3 [(.int .i64 0)]) [] 0,
  .mk none none (.store 1 (.t p4) (.c (.int .i64 0))) [] 1] false
def c33_2 : CC := .reg [
  .mk (some p5) none (.mv (.t p0)) [] 0,
  .mk (some p6) none (.call (.c (.fn 60 [])) [(.t p5), (.c (.int .i64 1)), (.t p4)]) [] 1,
  .mk (some p7) none (.un .not (.t p6)) [] 2] false
def c33_3 : CC := .reg [
  .mk (some p8) none (.build [(.int .i64 0), (.int .i64 0), (.int .i64 0), (.str []), (.str []), .nils, (.int .i64 0), (.int .i64 0)] []) [] 0,
  .mk none none (.store 8 (.t p2) (.t p8)) [] 1,
  .mk (some p3) none (.mv (.c (.int .i64 200))) [] 2] false
def c33_4 : CC := .reg [
  .mk (some p9) none (.mv (.t p0)) [] 0,
  .mk (some p10) none (.call (.c (.fn 61 [])) [(.t p9)]) [] 1,
  .mk none none (.store 8 (.t p2) (.t p10)) [] 2,
  .mk (some p3) none (.mv (.c (.int .i64 0))) [] 3] false
def F33 : CF := .mk 11 [p0] 4 (.seq c33_0 (.seq c33_1 (.seq (.seq c33_2 (.cond (.t p7) (.seq c33_3 .ret) .skip)) (.seq c33_4 .ret)))) [.cell p2 8 true, .t p3] 1
/- daybook/pull.Read -/
def c34_0 : CC := .reg [
  .mk (some p1) none (.box 36 (.t p0)) [] 0,
  .mk (some p2) none (.mv (.c .nils)) [] 1,
  .mk (some p3) none (.mv (.c (.int .i64 0))) [] 2] false
def c34_1 : CC := .reg [
  .mk (some p8) none (.load 8 true (.t p1)) [] 0,
  .mk (some p9) none (.call (.c (.fn 62 [])) [(.t p8), (.c (.int .i64 1))]) [] 1,
  .mk (some p7) none (.mv (.t p9)) [] 2,
  .mk (some p10) none (.ext 0 (.t p7)) [] 3,
  .mk (some p11) none (.ext 1 (.t p7)) [] 4,
  .mk (some p4) none (.mv (.t p10)) [] 5,
  .mk (some p5) none (.mv (.t p11)) [] 6] false
def c34_2 : CC := .reg [
  .mk (some p6) none (.alloc 3 [(.int .i64 0)]) [] 0,
  .mk none none (.store 1 (.t p6) (.c (.int .i64 0))) [] 1] false
def c34_3 : CC := .reg [
  .mk (some p12) none (.mv (.t p5)) [] 0,
  .mk (some p13) none (.un .not (.t p12)) [] 1,
  .mk (some p14) none (.mv (.t p13)) [] 2,
  .mk (some p15) (some (p14, false)) (.mv (.t p4)) [] 3,
  .mk (some p16) (some (p14, false)) (.call (.c (.fn 60 [])) [(.t p15), (.c (.int .i64 1)), (.t p6)]) [] 4,
  .mk (some p17) (some (p14, false)) (.un .not (.t p16)) [] 5,
  .mk (some p18) none (.pick (.t p14) (.c (.bool true)) (.t p17)) [] 6,
  .mk (some p19) none (.mv (.t p18)) [] 7,
  .mk (some p20) (some (p19, false)) (.load 8 true (.t p1)) [10] 8,
  .mk (some p21) (some (p19, false)) (.mv (.t p4)) [] 9,
  .mk (some p22) (some (p19, false)) (.call (.c (.fn 61 [])) [(.t p21)]) [] 10,
  .mk (some p23) (some (p19, false)) (.call (.c (.fn 63 [])) [(.t p20), (.t p22)]) [] 11,
  .mk (some p24) (some (p19, false)) (.un .not (.t p23)) [] 12,
  .mk (some p25) none (.pick (.t p19) (.c (.bool true)) (.t p24)) [] 13] true
def c34_4 : CC := .reg [
  .mk (some p2) none (.mv (.c .nils)) [] 0,
  .mk (some p3) none (.mv (.c (.int .i64 200))) [] 1] false
def c34_5 : CC := .reg [
  .mk (some p26) none (.mv (.t p4)) [] 0,
  .mk (some p2) none (.mv (.t p26)) [] 1,
  .mk (some p3) none (.mv (.c (.int .i64 0))) [] 2] false
def F34 : CF := .mk 27 [p0] 5 (.seq c34_0 (.seq c34_1 (.seq c34_2 (.seq (.seq c34_3 (.cond (.t p25) (.seq c34_4 .ret) .skip)) (.seq c34_5 .ret))))) [.t p2, .t p3] 1
/- daybook/daybooklaw20.told -/
def c35_0 : CC := .reg [
  .mk (some p4) none (.mv (.c (.str []))) [] 0] false
def c35_1 : CC := .reg [
  .mk (some p16) none (.mv (.t p1)) [] 0,
  .mk (some p17) none (.call (.c (.fn 11 [])) [(.t p16)]) [] 1,
  .mk (some p15) none (.mv (.t p17)) [] 2,
  .mk (some p18) none (.ext 0 (.t p15)) [] 3,
  .mk (some p19) none (.ext 1 (.t p15)) [] 4,
  .mk (some p5) none (.mv (.t p18)) [] 5,
  .mk (some p6) none (.mv (.t p19)) [] 6] false
def c35_2 : CC := .reg [
  .mk (some p21) none (.call (.c (.fn 32 [])) []) [] 0,
  .mk (some p22) none (.call (.c (.fn 26 [])) [(.t p21)]) [] 1,
  .mk (some p20) none (.mv (.t p22)) [] 2,
  .mk (some p23) none (.ext 0 (.t p20)) [] 3,
  .mk (some p24) none (.ext 1 (.t p20)) [] 4,
  .mk (some p7) none (.mv (.t p23)) [] 5,
  .mk (some p8) none (.mv (.t p24)) [] 6] false
def c35_3 : CC := .reg [
  .mk (some p26) none (.mv (.t p7)) [] 0,
  .mk (some p27) none (.call (.c (.fn 32 [])) []) [] 1,
  .mk (some p28) none (.mv (.t p0)) [] 2,
  .mk (some p29) none (.mv (.t p5)) [] 3,
  .mk (some p30) none (.call (.c (.fn 27 [])) [(.t p26), (.t p27), (.t p28), (.t p29)]) [] 4,
  .mk (some p25) none (.mv (.t p30)) [] 5,
  .mk (some p31) none (.ext 0 (.t p25)) [] 6,
  .mk (some p32) none (.ext 1 (.t p25)) [] 7,
  .mk (some p9) none (.mv (.t p31)) [] 8,
  .mk (some p10) none (.mv (.t p32)) [] 9] false
def c35_4 : CC := .reg [
  .mk (some p34) none (.mv (.t p9)) [] 0,
  .mk (some p35) none (.call (.c (.fn 33 [])) [(.t p34)]) [] 1,
  .mk (some p33) none (.mv (.t p35)) [] 2,
  .mk (some p36) none (.ext 0 (.t p33)) [] 3,
  .mk (some p37) none (.ext 1 (.t p33)) [] 4,
  .mk (some p11) none (.alloc 36 [(.int .i64 0), (.int .i64 0), (.int .i64 0), (.str []), (.str []), .nils, (.int .i64 0), (.int .i64 0)]) [] 5,
  .mk none none (.store 8 (.t p11) (.t p36)) [] 6,
  .mk (some p12) none (.mv (.t p37)) [] 7] false
def c35_5 : CC := .reg [
  .mk (some p39) none (.load 8 true (.t p11)) [] 0,
  .mk (some p40) none (.bslice 36 8 [(.int .i64 0), (.int .i64 0), (.int .i64 0), (.str []), (.str []), .nils, (.int .i64 0), (.int .i64 0)] 1 [(0, (.t p39))]) [] 1,
  .mk (some p41) none (.call (.c (.fn 51 [])) [(.t p40)]) [] 2,
  .mk (some p38) none (.mv (.t p41)) [] 3,
  .mk (some p42) none (.ext 0 (.t p38)) [] 4,
  .mk (some p43) none (.ext 1 (.t p38)) [] 5,
  .mk (some p13) none (.mv (.t p42)) [] 6,
  .mk (some p14) none (.mv (.t p43)) [] 7] false
def c35_6 : CC := .reg [
  .mk (some p44) none (.mv (.t p6)) [] 0,
  .mk (some p45) none (.bin .neq .num (.t p44) (.c (.int .i64 0))) [] 1,
  .mk (some p46) none (.mv (.t p45)) [] 2,
  .mk (some p47) (some (p46, false)) (.mv (.t p10)) [] 3,
  .mk (some p48) (some (p46, false)) (.bin .neq .num (.t p47) (.c (.int .i64 0))) [] 4,
  .mk (some p49) none (.pick (.t p46) (.c (.bool true)) (.t p48)) [] 5,
  .mk (some p50) none (.mv (.t p49)) [] 6,
  .mk (some p51) (some (p50, false)) (.mv (.t p12)) [] 7,
  .mk (some p52) (some (p50, false)) (.bin .neq .num (.t p51) (.c (.int .i64 0))) [] 8,
  .mk (some p53) none (.pick (.t p50) (.c (.bool true)) (.t p52)) [] 9,
  .mk (some p54) none (.mv (.t p53)) [] 10,
  .mk (some p55) (some (p54, false)) (.mv (.t p14)) [] 11,
  .mk (some p56) (some (p54, false)) (.bin .neq .num (.t p55) (.c (.int .i64 0))) [] 12,
  .mk (some p57) none (.pick (.t p54) (.c (.bool true)) (.t p56)) [] 13] false
def c35_7 : CC := .reg [
  .mk (some p4) none (.mv (.c (.str []))) [] 0] false
def c35_8 : CC := .reg [
  .mk (some p58) none (.mv (.t p13)) [] 0,
  .mk (some p4) none (.mv (.t p58)) [] 1] false
def F35 : CF := .mk 59 [p0, p1] 6 (.seq c35_0 (.seq c35_1 (.seq c35_2 (.seq c35_3 (.seq c35_4 (.seq c35_5 (.seq (.seq c35_6 (.cond (.t p57) (.seq c35_7 .ret) .skip)) (.seq c35_8 .ret)))))))) [.t p4] 1
/- daybook/text.Parse -/
def c38_0 : CC := .reg [
  .mk (some p2) none (.alloc 29 [.nils]) [] 0,
  .mk (some p3) none (.alloc 3 [(.int .i64 0)]) [] 1,
  .mk (some p4) none (.alloc 3 [(.int .i64 0)]) [] 2,
  .mk (some p5) none (.alloc 23 [(.int .i64 0)]) [] 3] false
def c38_1 : CC := .reg [
  .mk (some p16) none (.bslice 29 1 [.nils] 1 [(0, (.c .nils))]) [] 0,
  .mk (some p6) none (.alloc 119 [.nils]) [] 1,
  .mk none none (.store 1 (.t p6) (.t p16)) [] 2] false
def c38_2 : CC := .reg [
  .mk (some p7) none (.alloc 29 [.nils]) [] 0] false
def c38_3 : CC := .reg [
  .mk (some p8) none (.alloc 3 [(.int .i64 0)]) [] 0,
  .mk none none (.store 1 (.t p8) (.c (.int .i64 0))) [] 1] false
def c38_4 : CC := .reg [
  .mk (some p17) none (.mv (.t p0)) [] 0,
  .mk (some p18) none (.call (.c (.fn 64 [])) [(.t p17)]) [] 1] false
def c38_5 : CC := .reg [
  .mk (some p9) none (.alloc 124 [(.str []), (.int .i64 0), (.int .i64 0), (.bool false)]) [] 0,
  .mk none none (.store 4 (.t p9) (.t p19)) [] 1] false
def c38_6 : CC := .reg [
  .mk (some p20) none (.load 1 false (.t p6)) [] 0,
  .mk (some p21) none (.len 1 (.t p20)) [] 1,
  .mk (some p22) none (.bin .sub .num (.t p21) (.c (.int .i64 1))) [] 2,
  .mk (some p10) none (.mv (.t p22)) [] 3] false
def c38_7 : CC := .reg [
  .mk (some p23) none (.faddr 1 (.t p9)) [] 0,
  .mk (some p24) none (.load 1 false (.t p23)) [] 1,
  .mk (some p25) none (.faddr 2 (.t p9)) [] 2,
  .mk (some p26) none (.load 1 false (.t p25)) [] 3,
  .mk (some p27) none (.build [(.int .i64 0), (.int .i64 0), (.int .i64 0), (.str []), (.str []), .nils, (.int .i64 0), (.int .i64 0)] [(6, 1, (.t p24)), (7, 1, (.t p26))]) [] 4,
  .mk (some p11) none (.alloc 36 [(.int .i64 0), (.int .i64 0), (.int .i64 0), (.str []), (.str []), .nils, (.int .i64 0), (.int .i64 0)]) [] 5,
  .mk none none (.store 8 (.t p11) (.t p27)) [] 6] false
def c38_8 : CC := .reg [
  .mk (some p29) none (.faddr 3 (.t p9)) [] 0,
  .mk (some p30) none (.load 1 false (.t p29)) [] 1,
  .mk (some p31) none (.mv (.t p30)) [] 2,
  .mk (some p32) (some (p31, false)) (.faddr 0 (.t p9)) [] 3,
  .mk (some p33) (some (p31, false)) (.load 1 false (.t p32)) [] 4,
  .mk (some p34) (some (p31, false)) (.bin .eql .num (.t p33) (.c (.str []))) [] 5,
  .mk (some p35) (some (p31, false)) (.mv (.t p34)) [] 6,
  .mk (some p36) (some (p35, true)) (.mv (.t p10)) [] 7,
  .mk (some p37) (some (p35, true)) (.bin .gtr .num (.t p36) (.c (.int .i64 0))) [] 8,
  .mk (some p38) (some (p31, false)) (.pick (.t p35) (.t p37) (.c (.bool false))) [] 9,
  .mk (some p39) none (.pick (.t p31) (.c (.bool true)) (.t p38)) [] 10,
  .mk (some p28) none (.mv (.t p39)) [] 11] false
def c38_9 : CC := .reg [
  .mk (some p40) none (.faddr 1 (.t p9)) [] 0,
  .mk (some p41) none (.load 1 false (.t p40)) [4] 1,
  .mk (some p42) none (.faddr 2 (.t p9)) [] 2,
  .mk (some p43) none (.load 1 false (.t p42)) [4, 5] 3,
  .mk none none (.store 1 (.t p2) (.c .nils)) [] 4,
  .mk none none (.store 1 (.t p3) (.t p41)) [] 5,
  .mk none none (.store 1 (.t p4) (.t p43)) [] 6,
  .mk none none (.store 1 (.t p5) (.c (.int .i64 50))) [] 7] true
def c38_10 : CC := .reg [
  .mk (some p45) none (.faddr 0 (.t p9)) [] 0,
  .mk (some p46) none (.load 1 false (.t p45)) [] 1,
  .mk (some p47) none (.bin .eql .num (.t p46) (.c (.str []))) [] 2,
  .mk (some p44) none (.mv (.t p47)) [] 3] false
def c38_11 : CC := .reg [
  .mk (some p48) none (.load 1 false (.t p6)) [] 0,
  .mk (some p49) none (.iaddr 1 (.t p48) (.c (.int .i64 0))) [] 1,
  .mk (some p50) none (.load 1 false (.t p49)) [] 2,
  .mk none none (.store 1 (.t p2) (.t p50)) [] 3,
  .mk none none (.store 1 (.t p3) (.c (.int .i64 0))) [] 4,
  .mk none none (.store 1 (.t p4) (.c (.int .i64 0))) [] 5,
  .mk none none (.store 1 (.t p5) (.c (.int .i64 0))) [] 6] false
def c38_12 : CC := .reg [
  .mk (some p52) none (.faddr 0 (.t p9)) [] 0,
  .mk (some p53) none (.load 1 false (.t p52)) [] 1,
  .mk (some p54) none (.call (.c (.fn 65 [])) [(.c (.str [41, 93, 125])), (.t p53)]) [] 2,
  .mk (some p51) none (.mv (.t p54)) [] 3] false
def c38_13 : CC := .reg [
  .mk (some p55) none (.faddr 0 (.t p9)) [] 0,
  .mk (some p56) none (.load 1 false (.t p55)) [] 1,
  .mk (some p57) none (.call (.c (.fn 66 [])) [(.c (.str [41, 93, 125])), (.t p56)]) [] 2,
  .mk (some p12) none (.mv (.t p57)) [] 3] false
def c38_14 : CC := .reg [
  .mk (some p58) none (.mv (.t p10)) [] 0,
  .mk (some p59) none (.bin .eql .num (.t p58) (.c (.int .i64 0))) [] 1,
  .mk (some p60) none (.mv (.t p59)) [] 2,
  .mk (some p61) (some (p60, false)) (.load 1 false (.t p7)) [] 3,
  .mk (some p62) (some (p60, false)) (.mv (.t p10)) [] 4,
  .mk (some p63) (some (p60, false)) (.bin .sub .num (.t p62) (.c (.int .i64 1))) [] 5,
  .mk (some p64) (some (p60, false)) (.iaddr 8 (.t p61) (.t p63)) [] 6,
  .mk (some p65) (some (p60, false)) (.faddr 0 (.t p64)) [] 7,
  .mk (some p66) (some (p60, false)) (.load 1 false (.t p65)) [] 8,
  .mk (some p67) (some (p60, false)) (.mv (.t p12)) [] 9,
  .mk (some p68) (some (p60, false)) (.bin .add .num (.c (.int .i64 3)) (.t p67)) [] 10,
  .mk (some p69) (some (p60, false)) (.bin .neq .num (.t p66) (.t p68)) [] 11,
  .mk (some p70) none (.pick (.t p60) (.c (.bool true)) (.t p69)) [] 12] false
def c38_15 : CC := .reg [
  .mk (some p71) none (.faddr 1 (.t p9)) [] 0,
  .mk (some p72) none (.load 1 false (.t p71)) [4] 1,
  .mk (some p73) none (.faddr 2 (.t p9)) [] 2,
  .mk (some p74) none (.load 1 false (.t p73)) [4, 5] 3,
  .mk none none (.store 1 (.t p2) (.c .nils)) [] 4,
  .mk none none (.store 1 (.t p3) (.t p72)) [] 5,
  .mk none none (.store 1 (.t p4) (.t p74)) [] 6,
  .mk none none (.store 1 (.t p5) (.c (.int .i64 50))) [] 7] true
def c38_16 : CC := .reg [
  .mk (some p75) none (.load 1 false (.t p7)) [] 0,
  .mk (some p76) none (.mv (.t p10)) [] 1,
  .mk (some p77) none (.bin .sub .num (.t p76) (.c (.int .i64 1))) [] 2,
  .mk (some p78) none (.iaddr 8 (.t p75) (.t p77)) [] 3,
  .mk (some p79) none (.load 8 true (.t p78)) [] 4,
  .mk none none (.store 8 (.t p11) (.t p79)) [] 5] false
def c38_17 : CC := .reg [
  .mk (some p80) none (.load 1 false (.t p6)) [] 0,
  .mk (some p81) none (.mv (.t p10)) [] 1,
  .mk (some p82) none (.iaddr 1 (.t p80) (.t p81)) [] 2,
  .mk (some p83) none (.load 1 false (.t p82)) [] 3,
  .mk (some p84) none (.faddr 5 (.t p11)) [] 4,
  .mk none none (.store 1 (.t p84) (.t p83)) [] 5] false
def c38_18 : CC := .reg [
  .mk (some p85) none (.load 1 false (.t p6)) [] 0,
  .mk (some p86) none (.mv (.t p10)) [] 1,
  .mk (some p87) none (.slice 1 (.t p85) none (some (.t p86)) none) [] 2,
  .mk (some p88) none (.load 1 false (.t p7)) [7] 3,
  .mk (some p89) none (.mv (.t p10)) [] 4,
  .mk (some p90) none (.bin .sub .num (.t p89) (.c (.int .i64 1))) [] 5,
  .mk (some p91) none (.slice 8 (.t p88) none (some (.t p90)) none) [] 6,
  .mk none none (.store 1 (.t p6) (.t p87)) [] 7,
  .mk none none (.store 1 (.t p7) (.t p91)) [] 8] true
def c38_19 : CC := .reg [
  .mk (some p94) none (.load 1 false (.t p6)) [] 0,
  .mk (some p95) none (.mv (.t p10)) [] 1,
  .mk (some p96) none (.bin .sub .num (.t p95) (.c (.int .i64 1))) [] 2,
  .mk (some p97) none (.load 1 false (.t p6)) [] 3,
  .mk (some p98) none (.mv (.t p10)) [] 4,
  .mk (some p99) none (.bin .sub .num (.t p98) (.c (.int .i64 1))) [] 5,
  .mk (some p100) none (.iaddr 1 (.t p97) (.t p99)) [] 6,
  .mk (some p101) none (.load 1 false (.t p100)) [] 7,
  .mk (some p102) none (.load 8 true (.t p11)) [] 8,
  .mk (some p103) none (.len 1 (.t p101)) [] 9,
  .mk (some p104) none (.bslice 36 8 [(.int .i64 0), (.int .i64 0), (.int .i64 0), (.str []), (.str []), .nils, (.int .i64 0), (.int .i64 0)] 1 [(0, (.c (.agg [(.int .i64 0), (.int .i64 0), (.int .i64 0), (.str []), (.str []), .nils, (.int .i64 0), (.int .i64 0)])))]) [] 10,
  .mk (some p105) none (.append 36 8 (.t p101) (.t p104)) [] 11,
  .mk (some p106) none (.iaddr 1 (.t p94) (.t p96)) [] 12,
  .mk none none (.store 1 (.t p106) (.t p105)) [] 13] true
def c38_20 : CC := .reg [
  .mk (some p107) none (.iaddr 8 (.t p105) (.t p103)) [] 0,
  .mk none none (.store 8 (.t p107) (.t p102)) [] 1] false
def c38_21 : CC := .reg [
  .mk (some p108) none (.load 1 false (.t p6)) [10] 0,
  .mk (some p109) none (.mv (.t p10)) [] 1,
  .mk (some p110) none (.bin .sub .num (.t p109) (.c (.int .i64 1))) [] 2,
  .mk (some p111) none (.load 1 false (.t p6)) [] 3,
  .mk (some p112) none (.mv (.t p10)) [] 4,
  .mk (some p113) none (.bin .sub .num (.t p112) (.c (.int .i64 1))) [] 5,
  .mk (some p114) none (.iaddr 1 (.t p111) (.t p113)) [] 6,
  .mk (some p115) none (.load 1 false (.t p114)) [] 7,
  .mk (some p116) none (.load 8 true (.t p11)) [] 8,
  .mk (some p117) none (.bslice 36 8 [(.int .i64 0), (.int .i64 0), (.int .i64 0), (.str []), (.str []), .nils, (.int .i64 0), (.int .i64 0)] 1 [(0, (.t p116))]) [] 9,
  .mk (some p118) none (.append 36 8 (.t p115) (.t p117)) [] 10,
  .mk (some p119) none (.iaddr 1 (.t p108) (.t p110)) [] 11,
  .mk none none (.store 1 (.t p119) (.t p118)) [] 12] true
def c38_22 : CC := .reg [
  .mk (some p120) none (.load 1 false (.t p8)) [] 0,
  .mk (some p121) none (.bin .add .num (.t p120) (.c (.int .i64 1))) [] 1,
  .mk none none (.store 1 (.t p8) (.t p121)) [] 2] false
def c38_23 : CC := .reg [
  .mk (some p122) none (.load 1 false (.t p8)) [] 0,
  .mk (some p123) none (.bin .gtr .num (.t p122) (.c (.int .i64 5000))) [] 1] false
def c38_24 : CC := .reg [
  .mk (some p124) none (.faddr 1 (.t p9)) [] 0,
  .mk (some p125) none (.load 1 false (.t p124)) [4] 1,
  .mk (some p126) none (.faddr 2 (.t p9)) [] 2,
  .mk (some p127) none (.load 1 false (.t p126)) [4, 5] 3,
  .mk none none (.store 1 (.t p2) (.c .nils)) [] 4,
  .mk none none (.store 1 (.t p3) (.t p125)) [] 5,
  .mk none none (.store 1 (.t p4) (.t p127)) [] 6,
  .mk none none (.store 1 (.t p5) (.c (.int .i64 50))) [] 7] true
def c38_25 : CC := .reg [
  .mk (some p128) none (.faddr 0 (.t p9)) [] 0,
  .mk (some p129) none (.load 1 false (.t p128)) [] 1,
  .mk (some p130) none (.call (.c (.fn 66 [])) [(.c (.str [40, 91, 123])), (.t p129)]) [] 2,
  .mk (some p13) none (.mv (.t p130)) [] 3] false
def c38_26 : CC := .reg [
  .mk (some p131) none (.mv (.t p13)) [] 0,
  .mk (some p132) none (.bin .geq .num (.t p131) (.c (.int .i64 0))) [] 1] false
def c38_27 : CC := .reg [
  .mk (some p133) none (.mv (.t p10)) [] 0,
  .mk (some p134) none (.bin .eql .num (.t p133) (.c (.int .i64 50))) [] 1] false
def c38_28 : CC := .reg [
  .mk (some p135) none (.faddr 1 (.t p9)) [] 0,
  .mk (some p136) none (.load 1 false (.t p135)) [4] 1,
  .mk (some p137) none (.faddr 2 (.t p9)) [] 2,
  .mk (some p138) none (.load 1 false (.t p137)) [4, 5] 3,
  .mk none none (.store 1 (.t p2) (.c .nils)) [] 4,
  .mk none none (.store 1 (.t p3) (.t p136)) [] 5,
  .mk none none (.store 1 (.t p4) (.t p138)) [] 6,
  .mk none none (.store 1 (.t p5) (.c (.int .i64 50))) [] 7] true
def c38_29 : CC := .reg [
  .mk (some p139) none (.mv (.t p13)) [] 0,
  .mk (some p140) none (.bin .add .num (.c (.int .i64 3)) (.t p139)) [] 1,
  .mk (some p141) none (.faddr 0 (.t p11)) [] 2,
  .mk none none (.store 1 (.t p141) (.t p140)) [] 3] false
def c38_30 : CC := .reg [
  .mk (some p142) none (.load 1 false (.t p6)) [] 0,
  .mk (some p143) none (.bslice 29 1 [.nils] 1 [(0, (.c .nils))]) [] 1,
  .mk (some p145) none (.load 1 false (.t p7)) [5] 3,
  .mk (some p146) none (.load 8 true (.t p11)) [5] 4,
  .mk (some p147) none (.bslice 36 8 [(.int .i64 0), (.int .i64 0), (.int .i64 0), (.str []), (.str []), .nils, (.int .i64 0), (.int .i64 0)] 1 [(0, (.t p146))]) [5] 5,
  .mk (some p144) none (.append 29 1 (.t p142) (.t p143)) [] 2,
  .mk (some p148) none (.append 36 8 (.t p145) (.t p147)) [] 6,
  .mk none none (.store 1 (.t p6) (.t p144)) [] 7,
  .mk none none (.store 1 (.t p7) (.t p148)) [] 8] true
def c38_31 : CC := .reg [
  .mk (some p150) none (.faddr 0 (.t p9)) [] 0,
  .mk (some p151) none (.load 1 false (.t p150)) [] 1,
  .mk (some p152) none (.call (.c (.fn 67 [])) [(.t p151)]) [] 2,
  .mk (some p149) none (.mv (.t p152)) [] 3,
  .mk (some p153) none (.ext 0 (.t p149)) [] 4,
  .mk (some p154) none (.ext 1 (.t p149)) [] 5,
  .mk (some p14) none (.alloc 34 [(.int .i64 0), (.int .i64 0), (.str [])]) [] 6,
  .mk none none (.store 3 (.t p14) (.t p153)) [] 7,
  .mk (some p15) none (.mv (.t p154)) [] 8] false
def c38_32 : CC := .reg [
  .mk (some p160) none (.mv (.t p15)) [] 0,
  .mk (some p161) none (.bin .eql .num (.t p160) (.c (.int .i64 0))) [] 1,
  .mk (some p159) none (.mv (.t p161)) [] 2] false
def c38_33 : CC := .reg [
  .mk (some p162) none (.load 3 true (.t p14)) [2] 0,
  .mk (some p163) none (.faddr 0 (.t p11)) [] 1,
  .mk none none (.store 1 (.t p163) (.c (.int .i64 1))) [] 2,
  .mk (some p164) none (.faddr 1 (.t p11)) [] 3,
  .mk none none (.store 3 (.t p164) (.t p162)) [] 4] true
def c38_34 : CC := .reg [
  .mk (some p166) none (.faddr 0 (.t p9)) [] 0,
  .mk (some p167) none (.load 1 false (.t p166)) [] 1,
  .mk (some p168) none (.call (.c (.fn 68 [])) [(.t p167)]) [] 2,
  .mk (some p165) none (.mv (.t p168)) [] 3] false
def c38_35 : CC := .reg [
  .mk (some p169) none (.faddr 0 (.t p9)) [] 0,
  .mk (some p170) none (.load 1 false (.t p169)) [3] 1,
  .mk (some p171) none (.faddr 0 (.t p11)) [] 2,
  .mk none none (.store 1 (.t p171) (.c (.int .i64 2))) [] 3,
  .mk (some p172) none (.faddr 4 (.t p11)) [] 4,
  .mk none none (.store 1 (.t p172) (.t p170)) [] 5] true
def c38_36 : CC := .reg [
  .mk (some p155) none (.faddr 1 (.t p9)) [] 0,
  .mk (some p156) none (.load 1 false (.t p155)) [4] 1,
  .mk (some p157) none (.faddr 2 (.t p9)) [] 2,
  .mk (some p158) none (.load 1 false (.t p157)) [4, 5] 3,
  .mk none none (.store 1 (.t p2) (.c .nils)) [] 4,
  .mk none none (.store 1 (.t p3) (.t p156)) [] 5,
  .mk none none (.store 1 (.t p4) (.t p158)) [] 6,
  .mk none none (.store 1 (.t p5) (.c (.int .i64 50))) [] 7] true
def c38_37 : CC := .reg [
  .mk (some p175) none (.load 1 false (.t p6)) [] 0,
  .mk (some p176) none (.mv (.t p10)) [] 1,
  .mk (some p177) none (.iaddr 1 (.t p175) (.t p176)) [] 2,
  .mk (some p178) none (.load 1 false (.t p177)) [] 3,
  .mk (some p179) none (.load 8 true (.t p11)) [] 4,
  .mk (some p180) none (.len 1 (.t p178)) [] 5,
  .mk (some p181) none (.bslice 36 8 [(.int .i64 0), (.int .i64 0), (.int .i64 0), (.str []), (.str []), .nils, (.int .i64 0), (.int .i64 0)] 1 [(0, (.c (.agg [(.int .i64 0), (.int .i64 0), (.int .i64 0), (.str []), (.str []), .nils, (.int .i64 0), (.int .i64 0)])))]) [] 6,
  .mk (some p182) none (.append 36 8 (.t p178) (.t p181)) [] 7,
  .mk (some p183) none (.iaddr 1 (.t p175) (.t p176)) [] 8,
  .mk none none (.store 1 (.t p183) (.t p182)) [] 9] true
def c38_38 : CC := .reg [
  .mk (some p184) none (.iaddr 8 (.t p182) (.t p180)) [] 0,
  .mk none none (.store 8 (.t p184) (.t p179)) [] 1] false
def c38_39 : CC := .reg [
  .mk (some p185) none (.load 1 false (.t p6)) [8] 0,
  .mk (some p186) none (.mv (.t p10)) [] 1,
  .mk (some p187) none (.load 1 false (.t p6)) [] 2,
  .mk (some p188) none (.mv (.t p10)) [] 3,
  .mk (some p189) none (.iaddr 1 (.t p187) (.t p188)) [] 4,
  .mk (some p190) none (.load 1 false (.t p189)) [] 5,
  .mk (some p191) none (.load 8 true (.t p11)) [] 6,
  .mk (some p192) none (.bslice 36 8 [(.int .i64 0), (.int .i64 0), (.int .i64 0), (.str []), (.str []), .nils, (.int .i64 0), (.int .i64 0)] 1 [(0, (.t p191))]) [] 7,
  .mk (some p193) none (.append 36 8 (.t p190) (.t p192)) [] 8,
  .mk (some p194) none (.iaddr 1 (.t p185) (.t p186)) [] 9,
  .mk none none (.store 1 (.t p194) (.t p193)) [] 10] true
def c38_40 : CC := .rng (.t p18) [p19] c38_5 (.blk 1 (.seq c38_6 (.seq c38_7 (.seq (.blk 2 (.seq c38_8 (.cond (.t p28) (.seq c38_9 .ret) (.seq c38_10 (.cond (.t p44) (.seq c38_11 .ret) (.seq c38_12 (.cond (.t p51) (.seq c38_13 (.seq (.seq c38_14 (.cond (.t p70) (.seq c38_15 .ret) .skip)) (.seq c38_16 (.seq c38_17 (.seq c38_18 (.seq (.coin p92 p93 (.seq c38_19 c38_20) c38_21) (.exit 1))))))) .skip))))))) (.seq (.seq c38_22 (.seq c38_23 (.cond (.t p123) (.seq c38_24 .ret) .skip))) (.seq (.seq c38_25 (.seq c38_26 (.cond (.t p132) (.seq (.seq c38_27 (.cond (.t p134) (.seq c38_28 .ret) .skip)) (.seq c38_29 (.seq c38_30 (.exit 1)))) .skip))) (.seq c38_31 (.seq (.blk 3 (.seq c38_32 (.cond (.t p159) c38_33 (.seq c38_34 (.cond (.t p165) c38_35 (.seq c38_36 .ret)))))) (.coin p173 p174 (.seq c38_37 c38_38) c38_39)))))))))
def c38_41 : CC := .reg [
  .mk none none (.store 1 (.t p2) (.c .nils)) [] 0,
  .mk none none (.store 1 (.t p3) (.c (.int .i64 0))) [] 1,
  .mk none none (.store 1 (.t p4) (.c (.int .i64 0))) [] 2,
  .mk none none (.store 1 (.t p5) (.c (.int .i64 0))) [] 3] false
def F38 : CF := .mk 195 [p0] 8 (.seq c38_0 (.seq c38_1 (.seq c38_2 (.seq c38_3 (.seq (.seq c38_4 (.blk 0 c38_40)) (.seq c38_41 .ret)))))) [.cell p2 1 false, .cell p3 1 false, .cell p4 1 false, .cell p5 1 false] 1
/- daybook/shape.items -/
def c41_0 : CC := .reg [
  .mk (some p2) none (.box 36 (.t p0)) [] 0,
  .mk (some p4) none (.mv (.c .nils)) [] 1,
  .mk (some p5) none (.mv (.c (.bool false))) [] 2] false
def c41_1 : CC := .reg [
  .mk (some p12) none (.faddr 0 (.t p2)) [] 0,
  .mk (some p13) none (.load 1 false (.t p12)) [] 1,
  .mk (some p14) none (.bin .neq .num (.t p13) (.c (.int .i64 4))) [] 2,
  .mk (some p15) none (.mv (.t p14)) [] 3,
  .mk (some p16) (some (p15, false)) (.mv (.t p1)) [] 4,
  .mk (some p17) (some (p15, false)) (.bin .gtr .num (.t p16) (.c (.int .i64 20))) [] 5,
  .mk (some p18) none (.pick (.t p15) (.c (.bool true)) (.t p17)) [] 6] false
def c41_2 : CC := .reg [
  .mk (some p4) none (.mv (.c .nils)) [] 0,
  .mk (some p5) none (.mv (.c (.bool false))) [] 1] false
def c41_3 : CC := .reg [
  .mk (some p6) none (.mv (.c .nils)) [] 0] false
def c41_4 : CC := .reg [
  .mk (some p7) none (.mv (.c (.bool true))) [] 0] false
def c41_5 : CC := .reg [
  .mk (some p19) none (.faddr 5 (.t p2)) [] 0,
  .mk (some p20) none (.load 1 false (.t p19)) [] 1,
  .mk (some p21) none (.len 1 (.t p20)) [] 2,
  .mk (some p22) none (.mv (.c (.int .i64 0))) [] 3] false
def c41_6 : CC := .reg [
  .mk (some p23) none (.bin .lss .num (.t p22) (.t p21)) [] 0] false
def c41_7 : CC := .reg [
  .mk (some p24) none (.iaddr 8 (.t p20) (.t p22)) [] 0,
  .mk (some p25) none (.load 8 true (.t p24)) [] 1,
  .mk (some p9) none (.alloc 36 [(.int .i64 0), (.int .i64 0), (.int .i64 0), (.str []), (.str []), .nils, (.int .i64 0), (.int .i64 0)]) [] 2,
  .mk none none (.store 8 (.t p9) (.t p25)) [] 3] false
def c41_8 : CC := .reg [
  .mk (some p27) none (.load 8 true (.t p9)) [] 0,
  .mk (some p28) none (.mv (.t p1)) [] 1,
  .mk (some p29) none (.call (.c (.fn 72 [])) [(.t p27), (.t p28)]) [] 2,
  .mk (some p26) none (.mv (.t p29)) [] 3,
  .mk (some p30) none (.ext 0 (.t p26)) [] 4,
  .mk (some p31) none (.ext 1 (.t p26)) [] 5,
  .mk (some p10) none (.alloc 44 [(.bool false), (.str []), (.bool false), (.int .i64 0), (.bool false), (.int .i64 0), (.int .i64 0), (.str []), (.bool false), .nils, (.int .i64 0)]) [] 6,
  .mk none none (.store 11 (.t p10) (.t p30)) [] 7,
  .mk (some p11) none (.mv (.t p31)) [] 8] false
def c41_9 : CC := .reg [
  .mk (some p32) none (.mv (.t p11)) [] 0,
  .mk (some p33) none (.un .not (.t p32)) [] 1] false
def c41_10 : CC := .reg [
  .mk (some p7) none (.mv (.c (.bool false))) [] 0] false
def c41_11 : CC := .reg [
  .mk (some p34) none (.mv (.t p6)) [] 0,
  .mk (some p35) none (.load 11 true (.t p10)) [] 1,
  .mk (some p36) none (.bslice 44 11 [(.bool false), (.str []), (.bool false), (.int .i64 0), (.bool false), (.int .i64 0), (.int .i64 0), (.str []), (.bool false), .nils, (.int .i64 0)] 1 [(0, (.t p35))]) [] 2,
  .mk (some p37) none (.append 44 11 (.t p34) (.t p36)) [] 3,
  .mk (some p6) none (.mv (.t p37)) [] 4] false
def c41_12 : CC := .reg [
  .mk (some p38) none (.bin .add .num (.t p22) (.c (.int .i64 1))) [] 0,
  .mk (some p22) none (.mv (.t p38)) [] 1] false
def c41_13 : CC := .loop (.seq c41_6 (.seq (.cond (.t p23) .skip (.exit 0)) (.seq (.blk 1 (.seq c41_7 (.seq c41_8 (.seq (.seq c41_9 (.cond (.t p33) (.seq c41_10 (.exit 0)) .skip)) c41_11)))) c41_12)))
def c41_14 : CC := .reg [
  .mk (some p39) none (.mv (.t p6)) [] 0,
  .mk (some p40) none (.mv (.t p7)) [] 1,
  .mk (some p4) none (.mv (.t p39)) [] 2,
  .mk (some p5) none (.mv (.t p40)) [] 3] false
def F41 : CF := .mk 41 [p0, p1] 6 (.seq c41_0 (.scope (.seq (.seq c41_1 (.cond (.t p18) (.seq c41_2 .ret) .skip)) (.seq c41_3 (.seq c41_4 (.seq .skip (.seq (.seq c41_5 (.blk 0 c41_13)) (.seq c41_14 .ret)))))))) [.t p4, .t p5] 1
/- daybook/shape.may -/
def c42_0 : CC := .reg [
  .mk (some p2) none (.alloc 4 [(.bool false)]) [] 0] false
def c42_1 : CC := .reg [
  .mk (some p3) none (.alloc 3 [(.int .i64 0)]) [] 0,
  .mk none none (.store 1 (.t p3) (.c (.int .i64 0))) [] 1] false
def c42_2 : CC := .reg [
  .mk (some p8) none (.mv (.t p0)) [] 0,
  .mk (some p9) none (.call (.c (.fn 73 [])) [(.t p8), (.c (.int .i64 1))]) [] 1] false
def c42_3 : CC := .reg [
  .mk (some p4) none (.mv (.t p10)) [] 0] false
def c42_4 : CC := .reg [
  .mk (some p5) none (.mv (.t p11)) [] 0] false
def c42_5 : CC := .reg [
  .mk (some p12) none (.load 1 false (.t p3)) [] 0,
  .mk (some p13) none (.mv (.t p5)) [] 1,
  .mk (some p14) none (.len 1 (.t p13)) [] 2,
  .mk (some p15) none (.bin .add .num (.t p12) (.t p14)) [] 3,
  .mk none none (.store 1 (.t p3) (.t p15)) [] 4] false
def c42_6 : CC := .reg [
  .mk (some p16) none (.mv (.t p4)) [] 0,
  .mk (some p17) none (.bin .gtr .num (.t p16) (.c (.int .i64 20))) [] 1,
  .mk (some p18) none (.mv (.t p17)) [] 2,
  .mk (some p19) (some (p18, false)) (.load 1 false (.t p3)) [] 3,
  .mk (some p20) (some (p18, false)) (.bin .gtr .num (.t p19) (.c (.int .i64 1000))) [] 4,
  .mk (some p21) none (.pick (.t p18) (.c (.bool true)) (.t p20)) [] 5] false
def c42_7 : CC := .reg [
  .mk none none (.store 1 (.t p2) (.c (.bool false))) [] 0] false
def c42_8 : CC := .reg [
  .mk (some p22) none (.mv (.t p5)) [] 0,
  .mk (some p23) none (.len 1 (.t p22)) [] 1,
  .mk (some p24) none (.mv (.c (.int .i64 0))) [] 2] false
def c42_9 : CC := .reg [
  .mk (some p25) none (.bin .lss .num (.t p24) (.t p23)) [] 0] false
def c42_10 : CC := .reg [
  .mk (some p26) none (.mv (.t p24)) [] 0,
  .mk (some p27) none (.iaddr 11 (.t p22) (.t p24)) [] 1,
  .mk (some p28) none (.load 11 true (.t p27)) [] 2,
  .mk (some p7) none (.alloc 44 [(.bool false), (.str []), (.bool false), (.int .i64 0), (.bool false), (.int .i64 0), (.int .i64 0), (.str []), (.bool false), .nils, (.int .i64 0)]) [] 3,
  .mk (some p6) none (.mv (.t p26)) [] 4,
  .mk none none (.store 11 (.t p7) (.t p28)) [] 5] false
def c42_11 : CC := .reg [
  .mk (some p29) none (.load 11 true (.t p7)) [] 0,
  .mk (some p30) none (.call (.c (.fn 74 [])) [(.t p29)]) [] 1,
  .mk (some p31) none (.un .not (.t p30)) [] 2,
  .mk (some p32) none (.mv (.t p31)) [] 3,
  .mk (some p33) (some (p32, false)) (.mv (.t p5)) [] 4,
  .mk (some p34) (some (p32, false)) (.mv (.t p6)) [] 5,
  .mk (some p35) (some (p32, false)) (.slice 11 (.t p33) none (some (.t p34)) none) [] 6,
  .mk (some p36) (some (p32, false)) (.mkfn 76 [(.t p7)]) [] 7,
  .mk (some p37) (some (p32, false)) (.call (.c (.fn 75 [])) [(.t p35), (.t p36)]) [] 8,
  .mk (some p38) none (.pick (.t p32) (.c (.bool true)) (.t p37)) [] 9] false
def c42_12 : CC := .reg [
  .mk none none (.store 1 (.t p2) (.c (.bool false))) [] 0] false
def c42_13 : CC := .reg [
  .mk (some p39) none (.bin .add .num (.t p24) (.c (.int .i64 1))) [] 0,
  .mk (some p24) none (.mv (.t p39)) [] 1] false
def c42_14 : CC := .loop (.seq c42_9 (.seq (.cond (.t p25) .skip (.exit 2)) (.seq (.blk 3 (.seq c42_10 (.seq c42_11 (.cond (.t p38) (.seq c42_12 .ret) .skip)))) c42_13)))
def c42_15 : CC := .rng (.t p9) [p10, p11] (.seq c42_3 c42_4) (.blk 1 (.seq c42_5 (.seq (.seq c42_6 (.cond (.t p21) (.seq c42_7 .ret) .skip)) (.seq c42_8 (.blk 2 c42_14)))))
def c42_16 : CC := .reg [
  .mk none none (.store 1 (.t p2) (.c (.bool true))) [] 0] false
def F42 : CF := .mk 40 [p0] 6 (.seq c42_0 (.seq c42_1 (.seq (.seq c42_2 (.blk 0 c42_15)) (.seq c42_16 .ret)))) [.cell p2 1 false] 1
/- daybook/shape.same -/
def c43_0 : CC := .reg [
  .mk (some p2) none (.box 36 (.t p0)) [] 0,
  .mk (some p3) none (.box 36 (.t p1)) [] 1,
  .mk (some p4) none (.mv (.c (.bool false))) [] 2] false
def c43_1 : CC := .reg [
  .mk (some p5) none (.faddr 0 (.t p2)) [] 0,
  .mk (some p6) none (.load 1 false (.t p5)) [] 1,
  .mk (some p7) none (.faddr 0 (.t p3)) [] 2,
  .mk (some p8) none (.load 1 false (.t p7)) [] 3,
  .mk (some p9) none (.bin .eql .num (.t p6) (.t p8)) [] 4,
  .mk (some p10) none (.mv (.t p9)) [] 5,
  .mk (some p11) (some (p10, true)) (.faddr 1 (.t p2)) [] 6,
  .mk (some p12) (some (p10, true)) (.load 3 true (.t p11)) [] 7,
  .mk (some p13) (some (p10, true)) (.faddr 1 (.t p3)) [] 8,
  .mk (some p14) (some (p10, true)) (.load 3 true (.t p13)) [] 9,
  .mk (some p15) (some (p10, true)) (.bin .eql (.cells [.i, .i, .s]) (.t p12) (.t p14)) [] 10,
  .mk (some p16) none (.pick (.t p10) (.t p15) (.c (.bool false))) [] 11,
  .mk (some p17) none (.mv (.t p16)) [] 12,
  .mk (some p18) (some (p17, true)) (.faddr 4 (.t p2)) [] 13,
  .mk (some p19) (some (p17, true)) (.load 1 false (.t p18)) [] 14,
  .mk (some p20) (some (p17, true)) (.faddr 4 (.t p3)) [] 15,
  .mk (some p21) (some (p17, true)) (.load 1 false (.t p20)) [] 16,
  .mk (some p22) (some (p17, true)) (.bin .eql .num (.t p19) (.t p21)) [] 17,
  .mk (some p23) none (.pick (.t p17) (.t p22) (.c (.bool false))) [] 18,
  .mk (some p24) none (.mv (.t p23)) [] 19,
  .mk (some p25) (some (p24, true)) (.faddr 5 (.t p2)) [] 20,
  .mk (some p26) (some (p24, true)) (.load 1 false (.t p25)) [] 21,
  .mk (some p27) (some (p24, true)) (.faddr 5 (.t p3)) [] 22,
  .mk (some p28) (some (p24, true)) (.load 1 false (.t p27)) [] 23,
  .mk (some p29) (some (p24, true)) (.call (.c (.fn 78 [])) [(.t p26), (.t p28), (.c (.fn 43 []))]) [] 24,
  .mk (some p30) none (.pick (.t p24) (.t p29) (.c (.bool false))) [] 25,
  .mk (some p4) none (.mv (.t p30)) [] 26] false
def F43 : CF := .mk 31 [p0, p1] 5 (.seq c43_0 (.seq c43_1 .ret)) [.t p4] 1
/- daybook/shape.list -/
def c44_0 : CC := .reg [
  .mk (some p2) none (.alloc 36 [(.int .i64 0), (.int .i64 0), (.int .i64 0), (.str []), (.str []), .nils, (.int .i64 0), (.int .i64 0)]) [] 0] false
def c44_1 : CC := .reg [
  .mk (some p6) none (.build [(.int .i64 0), (.int .i64 0), (.int .i64 0), (.str []), (.str []), .nils, (.int .i64 0), (.int .i64 0)] [(0, 1, (.c (.int .i64 4)))]) [] 0,
  .mk (some p3) none (.alloc 36 [(.int .i64 0), (.int .i64 0), (.int .i64 0), (.str []), (.str []), .nils, (.int .i64 0), (.int .i64 0)]) [] 1,
  .mk none none (.store 8 (.t p3) (.t p6)) [] 2] false
def c44_2 : CC := .reg [
  .mk (some p7) none (.mv (.t p0)) [] 0,
  .mk (some p8) none (.len 1 (.t p7)) [] 1,
  .mk (some p9) none (.mv (.c (.int .i64 0))) [] 2] false
def c44_3 : CC := .reg [
  .mk (some p10) none (.bin .lss .num (.t p9) (.t p8)) [] 0] false
def c44_4 : CC := .reg [
  .mk (some p11) none (.iaddr 11 (.t p7) (.t p9)) [] 0,
  .mk (some p12) none (.load 11 true (.t p11)) [] 1,
  .mk (some p5) none (.alloc 44 [(.bool false), (.str []), (.bool false), (.int .i64 0), (.bool false), (.int .i64 0), (.int .i64 0), (.str []), (.bool false), .nils, (.int .i64 0)]) [] 2,
  .mk none none (.store 11 (.t p5) (.t p12)) [] 3] false
def c44_5 : CC := .reg [
  .mk (some p13) none (.faddr 5 (.t p3)) [] 0,
  .mk (some p14) none (.load 1 false (.t p13)) [3] 1,
  .mk (some p15) none (.load 11 true (.t p5)) [] 2,
  .mk (some p16) none (.call (.c (.fn 79 [])) [(.t p15)]) [] 3,
  .mk (some p17) none (.bslice 36 8 [(.int .i64 0), (.int .i64 0), (.int .i64 0), (.str []), (.str []), .nils, (.int .i64 0), (.int .i64 0)] 1 [(0, (.t p16))]) [] 4,
  .mk (some p18) none (.append 36 8 (.t p14) (.t p17)) [] 5,
  .mk (some p19) none (.faddr 5 (.t p3)) [] 6,
  .mk none none (.store 1 (.t p19) (.t p18)) [] 7] true
def c44_6 : CC := .reg [
  .mk (some p20) none (.bin .add .num (.t p9) (.c (.int .i64 1))) [] 0,
  .mk (some p9) none (.mv (.t p20)) [] 1] false
def c44_7 : CC := .loop (.seq c44_3 (.seq (.cond (.t p10) .skip (.exit 0)) (.seq (.blk 1 (.seq c44_4 c44_5)) c44_6)))
def c44_8 : CC := .reg [
  .mk (some p21) none (.load 8 true (.t p3)) [] 0,
  .mk none none (.store 8 (.t p2) (.t p21)) [] 1] false
def F44 : CF := .mk 22 [p0] 5 (.seq c44_0 (.seq c44_1 (.seq (.seq c44_2 (.blk 0 c44_7)) (.seq c44_8 .ret)))) [.cell p2 8 true] 1
/- daybook/text.Print -/
def c51_0 : CC := .reg [
  .mk (some p2) none (.mv (.c (.str []))) [] 0,
  .mk (some p3) none (.mv (.c (.int .i64 0))) [] 1] false
def c51_1 : CC := .reg [
  .mk (some p5) none (.build [.nilp, .nils, (.int .i64 0), (.int .i64 0), (.bool false)] []) [] 0,
  .mk (some p6) none (.box 150 (.t p5)) [] 1,
  .mk (some p4) none (.mv (.t p6)) [] 2] false
def c51_2 : CC := .reg [
  .mk (some p7) none (.mv (.t p4)) [] 0,
  .mk (some p8) none (.mv (.t p0)) [] 1,
  .mk (some p9) none (.call (.c (.fn 85 [])) [(.t p7), (.t p8), (.c (.str [32]))]) [] 2] false
def c51_3 : CC := .reg [
  .mk (some p10) none (.mv (.t p4)) [] 0,
  .mk (some p11) none (.nilck (.t p10)) [] 1,
  .mk (some p12) none (.faddr 4 (.t p11)) [] 2,
  .mk (some p13) none (.load 1 false (.t p12)) [] 3] false
def c51_4 : CC := .reg [
  .mk (some p2) none (.mv (.c (.str []))) [] 0,
  .mk (some p3) none (.mv (.c (.int .i64 2))) [] 1] false
def c51_5 : CC := .reg [
  .mk (some p14) none (.mv (.t p4)) [] 0,
  .mk (some p15) none (.nilck (.t p14)) [] 1,
  .mk (some p16) none (.faddr 0 (.t p15)) [] 2,
  .mk (some p17) none (.call (.c (.fn 86 [])) [(.t p16)]) [] 3,
  .mk (some p2) none (.mv (.t p17)) [] 4,
  .mk (some p3) none (.mv (.c (.int .i64 0))) [] 5] false
def F51 : CF := .mk 18 [p0] 5 (.seq c51_0 (.seq c51_1 (.seq (.seq c51_2 (.seq c51_3 (.cond (.t p13) (.seq c51_4 .ret) .skip))) (.seq c51_5 .ret)))) [.t p2, .t p3] 1
/- daybook/daybookref06.May -/
def c52_0 : CC := .reg [
  .mk (some p2) none (.mv (.c (.bool false))) [] 0] false
def c52_1 : CC := .reg [
  .mk (some p3) none (.mv (.c (.int .i64 0))) [] 0] false
def c52_2 : CC := .reg [
  .mk (some p5) none (.mv (.t p3)) [] 0,
  .mk (some p6) none (.mv (.t p0)) [] 1,
  .mk (some p7) none (.len 1 (.t p6)) [] 2,
  .mk (some p8) none (.bin .lss .num (.t p5) (.t p7)) [] 3] false
def c52_3 : CC := .reg [
  .mk (some p11) none (.mv (.t p0)) [] 0,
  .mk (some p12) none (.mv (.t p3)) [] 1,
  .mk (some p13) none (.iaddr 6 (.t p11) (.t p12)) [] 2,
  .mk (some p14) none (.faddr 0 (.t p13)) [] 3,
  .mk (some p15) none (.load 1 false (.t p14)) [] 4,
  .mk (some p16) none (.mv (.t p0)) [] 5,
  .mk (some p17) none (.mv (.t p3)) [] 6,
  .mk (some p18) none (.iaddr 6 (.t p16) (.t p17)) [] 7,
  .mk (some p19) none (.faddr 1 (.t p18)) [] 8,
  .mk (some p20) none (.load 1 false (.t p19)) [] 9,
  .mk (some p21) none (.mv (.t p0)) [] 10,
  .mk (some p22) none (.mv (.t p3)) [] 11,
  .mk (some p23) none (.iaddr 6 (.t p21) (.t p22)) [] 12,
  .mk (some p24) none (.faddr 2 (.t p23)) [] 13,
  .mk (some p25) none (.load 3 true (.t p24)) [] 14,
  .mk (some p26) none (.build [(.int .i64 0), (.int .i64 0), (.int .i64 0), (.int .i64 0), (.str []), (.int .i64 0), (.bool false), (.int .i64 0), (.int .i64 0)] [(0, 1, (.t p15)), (1, 1, (.t p20)), (2, 3, (.t p25)), (5, 1, (.c (.int .i64 1))), (8, 1, (.c (.int .i64 1)))]) [] 15,
  .mk (some p4) none (.alloc 154 [(.int .i64 0), (.int .i64 0), (.int .i64 0), (.int .i64 0), (.str []), (.int .i64 0), (.bool false), (.int .i64 0), (.int .i64 0)]) [] 16,
  .mk none none (.store 9 (.t p4) (.t p26)) [] 17] true
def c52_4 : CC := .reg [
  .mk (some p27) none (.load 9 true (.t p4)) [] 0,
  .mk (some p28) none (.call (.c (.fn 87 [])) [(.t p27)]) [] 1,
  .mk (some p29) none (.un .not (.t p28)) [] 2,
  .mk (some p30) none (.mv (.t p29)) [] 3,
  .mk (some p31) (some (p30, false)) (.mv (.t p0)) [] 4,
  .mk (some p32) (some (p30, false)) (.mv (.t p3)) [] 5,
  .mk (some p33) (some (p30, false)) (.iaddr 6 (.t p31) (.t p32)) [] 6,
  .mk (some p34) (some (p30, false)) (.faddr 5 (.t p33)) [] 7,
  .mk (some p35) (some (p30, false)) (.load 1 false (.t p34)) [] 8,
  .mk (some p36) (some (p30, false)) (.len 1 (.t p35)) [] 9,
  .mk (some p37) (some (p30, false)) (.bin .eql .num (.t p36) (.c (.int .i64 0))) [] 10,
  .mk (some p38) none (.pick (.t p30) (.c (.bool true)) (.t p37)) [] 11,
  .mk (some p39) none (.mv (.t p38)) [] 12,
  .mk (some p40) (some (p39, false)) (.mv (.t p0)) [] 13,
  .mk (some p41) (some (p39, false)) (.mv (.t p3)) [] 14,
  .mk (some p42) (some (p39, false)) (.iaddr 6 (.t p40) (.t p41)) [] 15,
  .mk (some p43) (some (p39, false)) (.faddr 5 (.t p42)) [] 16,
  .mk (some p44) (some (p39, false)) (.load 1 false (.t p43)) [] 17,
  .mk (some p45) (some (p39, false)) (.call (.c (.fn 88 [])) [(.t p44)]) [] 18,
  .mk (some p46) (some (p39, false)) (.un .not (.t p45)) [] 19,
  .mk (some p47) none (.pick (.t p39) (.c (.bool true)) (.t p46)) [] 20,
  .mk (some p48) none (.mv (.t p47)) [] 21,
  .mk (some p49) (some (p48, false)) (.mv (.t p3)) [] 22,
  .mk (some p50) (some (p48, false)) (.bin .gtr .num (.t p49) (.c (.int .i64 0))) [] 23,
  .mk (some p51) (some (p48, false)) (.mv (.t p50)) [] 24,
  .mk (some p52) (some (p51, true)) (.mv (.t p0)) [] 25,
  .mk (some p53) (some (p51, true)) (.mv (.t p3)) [] 26,
  .mk (some p54) (some (p51, true)) (.bin .sub .num (.t p53) (.c (.int .i64 1))) [] 27,
  .mk (some p55) (some (p51, true)) (.iaddr 6 (.t p52) (.t p54)) [] 28,
  .mk (some p56) (some (p51, true)) (.load 6 true (.t p55)) [] 29,
  .mk (some p57) (some (p51, true)) (.mv (.t p0)) [] 30,
  .mk (some p58) (some (p51, true)) (.mv (.t p3)) [] 31,
  .mk (some p59) (some (p51, true)) (.iaddr 6 (.t p57) (.t p58)) [] 32,
  .mk (some p60) (some (p51, true)) (.load 6 true (.t p59)) [] 33,
  .mk (some p61) (some (p51, true)) (.call (.c (.fn 89 [])) [(.t p56), (.t p60)]) [] 34,
  .mk (some p62) (some (p51, true)) (.bin .geq .num (.t p61) (.c (.int .i64 0))) [] 35,
  .mk (some p63) (some (p48, false)) (.pick (.t p51) (.t p62) (.c (.bool false))) [] 36,
  .mk (some p64) none (.pick (.t p48) (.c (.bool true)) (.t p63)) [] 37] true
def c52_5 : CC := .reg [
  .mk (some p2) none (.mv (.c (.bool false))) [] 0] false
def c52_6 : CC := .reg [
  .mk (some p9) none (.mv (.t p3)) [] 0,
  .mk (some p10) none (.bin .add .num (.t p9) (.c (.int .i64 1))) [] 1,
  .mk (some p3) none (.mv (.t p10)) [] 2] false
def c52_7 : CC := .loop (.seq (.seq c52_2 (.cond (.t p8) .skip (.exit 0))) (.seq (.blk 1 (.seq c52_3 (.seq c52_4 (.cond (.t p64) (.seq c52_5 .ret) .skip)))) c52_6))
def c52_8 : CC := .reg [
  .mk (some p2) none (.mv (.c (.bool true))) [] 0] false
def F52 : CF := .mk 65 [p0] 7 (.seq c52_0 (.seq (.seq c52_1 (.blk 0 c52_7)) (.seq c52_8 .ret))) [.t p2] 1
/- daybook/daybookref07.Made -/
def c53_0 : CC := .reg [
  .mk (some p4) none (.alloc 66 [(.int .i64 0), (.str []), (.int .i64 0), (.bool false), (.int .i64 0), (.bool false), (.bool false)]) [] 0,
  .mk (some p5) none (.mv (.c (.bool false))) [] 1] false
def c53_1 : CC := .reg [
  .mk (some p11) none (.mv (.t p0)) [] 0,
  .mk (some p12) none (.mv (.t p1)) [] 1,
  .mk (some p13) none (.call (.c (.fn 90 [])) [(.t p11), (.t p12), (.c (.int .i64 1))]) [] 2,
  .mk (some p6) none (.mv (.t p13)) [] 3] false
def c53_2 : CC := .reg [
  .mk (some p14) none (.mv (.t p0)) [] 0,
  .mk (some p15) none (.mv (.t p1)) [] 1,
  .mk (some p16) none (.call (.c (.fn 90 [])) [(.t p14), (.t p15), (.c (.int .i64 2))]) [] 2,
  .mk (some p7) none (.mv (.t p16)) [] 3] false
def c53_3 : CC := .reg [
  .mk (some p17) none (.mv (.t p1)) [] 0,
  .mk (some p18) none (.bin .lss .num (.t p17) (.c (.int .i64 10))) [] 1,
  .mk (some p19) none (.mv (.t p18)) [] 2,
  .mk (some p20) (some (p19, false)) (.mv (.t p6)) [] 3,
  .mk (some p21) (some (p19, false)) (.len 1 (.t p20)) [] 4,
  .mk (some p22) (some (p19, false)) (.bin .neq .num (.t p21) (.c (.int .i64 1))) [] 5,
  .mk (some p23) none (.pick (.t p19) (.c (.bool true)) (.t p22)) [] 6,
  .mk (some p24) none (.mv (.t p23)) [] 7,
  .mk (some p25) (some (p24, false)) (.mv (.t p7)) [] 8,
  .mk (some p26) (some (p24, false)) (.len 1 (.t p25)) [] 9,
  .mk (some p27) (some (p24, false)) (.bin .neq .num (.t p26) (.c (.int .i64 1))) [] 10,
  .mk (some p28) none (.pick (.t p24) (.c (.bool true)) (.t p27)) [] 11,
  .mk (some p29) none (.mv (.t p28)) [] 12,
  .mk (some p30) (some (p29, false)) (.mv (.t p6)) [] 13,
  .mk (some p31) (some (p29, false)) (.iaddr 3 (.t p30) (.c (.int .i64 0))) [] 14,
  .mk (some p32) (some (p29, false)) (.faddr 0 (.t p31)) [] 15,
  .mk (some p33) (some (p29, false)) (.load 1 false (.t p32)) [] 16,
  .mk (some p34) (some (p29, false)) (.bin .neq .num (.t p33) (.c (.int .i64 7))) [] 17,
  .mk (some p35) none (.pick (.t p29) (.c (.bool true)) (.t p34)) [] 18,
  .mk (some p36) none (.mv (.t p35)) [] 19,
  .mk (some p37) (some (p36, false)) (.mv (.t p7)) [] 20,
  .mk (some p38) (some (p36, false)) (.iaddr 3 (.t p37) (.c (.int .i64 0))) [] 21,
  .mk (some p39) (some (p36, false)) (.faddr 0 (.t p38)) [] 22,
  .mk (some p40) (some (p36, false)) (.load 1 false (.t p39)) [] 23,
  .mk (some p41) (some (p36, false)) (.bin .neq .num (.t p40) (.c (.int .i64 1))) [] 24,
  .mk (some p42) none (.pick (.t p36) (.c (.bool true)) (.t p41)) [] 25,
  .mk (some p43) none (.mv (.t p42)) [] 26,
  .mk (some p44) (some (p43, false)) (.mv (.t p7)) [] 27,
  .mk (some p45) (some (p43, false)) (.iaddr 3 (.t p44) (.c (.int .i64 0))) [] 28,
  .mk (some p46) (some (p43, false)) (.faddr 1 (.t p45)) [] 29,
  .mk (some p47) (some (p43, false)) (.load 1 false (.t p46)) [] 30,
  .mk (some p48) (some (p43, false)) (.bin .lss .num (.t p47) (.c (.int .i64 1))) [] 31,
  .mk (some p49) none (.pick (.t p43) (.c (.bool true)) (.t p48)) [] 32,
  .mk (some p50) none (.mv (.t p49)) [] 33,
  .mk (some p51) (some (p50, false)) (.mv (.t p7)) [] 34,
  .mk (some p52) (some (p50, false)) (.iaddr 3 (.t p51) (.c (.int .i64 0))) [] 35,
  .mk (some p53) (some (p50, false)) (.faddr 1 (.t p52)) [] 36,
  .mk (some p54) (some (p50, false)) (.load 1 false (.t p53)) [] 37,
  .mk (some p55) (some (p50, false)) (.bin .gtr .num (.t p54) (.c (.int .i64 7))) [] 38,
  .mk (some p56) none (.pick (.t p50) (.c (.bool true)) (.t p55)) [] 39] false
def c53_4 : CC := .reg [
  .mk (some p57) none (.build [(.int .i64 0), (.str []), (.int .i64 0), (.bool false), (.int .i64 0), (.bool false), (.bool false)] []) [] 0,
  .mk none none (.store 7 (.t p4) (.t p57)) [] 1,
  .mk (some p5) none (.mv (.c (.bool false))) [] 2] false
def c53_5 : CC := .reg [
  .mk (some p58) none (.mv (.t p1)) [] 0,
  .mk (some p59) none (.mv (.t p6)) [] 1,
  .mk (some p60) none (.iaddr 3 (.t p59) (.c (.int .i64 0))) [] 2,
  .mk (some p61) none (.faddr 2 (.t p60)) [] 3,
  .mk (some p62) none (.load 1 false (.t p61)) [16, 17, 18, 19, 20, 21] 4,
  .mk (some p63) none (.mv (.t p7)) [] 5,
  .mk (some p64) none (.iaddr 3 (.t p63) (.c (.int .i64 0))) [] 6,
  .mk (some p65) none (.faddr 1 (.t p64)) [] 7,
  .mk (some p66) none (.load 1 false (.t p65)) [16, 17, 18, 19, 20, 21] 8,
  .mk (some p67) none (.mv (.t p0)) [] 9,
  .mk (some p68) none (.mv (.t p1)) [] 10,
  .mk (some p71) none (.mv (.t p0)) [] 13,
  .mk (some p72) none (.mv (.t p1)) [] 14,
  .mk (some p75) none (.mv (.t p0)) [] 17,
  .mk (some p76) none (.mv (.t p1)) [] 18,
  .mk (some p8) none (.alloc 66 [(.int .i64 0), (.str []), (.int .i64 0), (.bool false), (.int .i64 0), (.bool false), (.bool false)]) [16, 17, 18, 19, 20, 21] 22,
  .mk (some p69) none (.call (.c (.fn 90 [])) [(.t p67), (.t p68), (.c (.int .i64 3))]) [] 11,
  .mk (some p70) none (.call (.c (.fn 91 [])) [(.t p69)]) [] 12,
  .mk (some p73) none (.call (.c (.fn 90 [])) [(.t p71), (.t p72), (.c (.int .i64 5))]) [] 15,
  .mk (some p74) none (.call (.c (.fn 91 [])) [(.t p73)]) [] 16,
  .mk (some p77) none (.call (.c (.fn 90 [])) [(.t p75), (.t p76), (.c (.int .i64 6))]) [] 19,
  .mk (some p78) none (.call (.c (.fn 91 [])) [(.t p77)]) [] 20,
  .mk (some p79) none (.build [(.int .i64 0), (.str []), (.int .i64 0), (.bool false), (.int .i64 0), (.bool false), (.bool false)] [(0, 1, (.t p58)), (1, 1, (.t p62)), (2, 1, (.t p66)), (3, 1, (.t p70)), (5, 1, (.t p74)), (6, 1, (.t p78))]) [] 21,
  .mk none none (.store 7 (.t p8) (.t p79)) [] 23] true
def c53_6 : CC := .reg [
  .mk (some p80) none (.mv (.t p0)) [] 0,
  .mk (some p81) none (.mv (.t p1)) [] 1,
  .mk (some p82) none (.call (.c (.fn 90 [])) [(.t p80), (.t p81), (.c (.int .i64 4))]) [] 2,
  .mk (some p9) none (.mv (.t p82)) [] 3] false
def c53_7 : CC := .reg [
  .mk (some p10) none (.mv (.c (.int .i64 0))) [] 0] false
def c53_8 : CC := .reg [
  .mk (some p83) none (.mv (.t p10)) [] 0,
  .mk (some p84) none (.mv (.t p9)) [] 1,
  .mk (some p85) none (.len 1 (.t p84)) [] 2,
  .mk (some p86) none (.bin .lss .num (.t p83) (.t p85)) [] 3] false
def c53_9 : CC := .reg [
  .mk (some p89) none (.mv (.t p9)) [] 0,
  .mk (some p90) none (.mv (.t p10)) [] 1,
  .mk (some p91) none (.iaddr 3 (.t p89) (.t p90)) [] 2,
  .mk (some p92) none (.faddr 0 (.t p91)) [] 3,
  .mk (some p93) none (.load 1 false (.t p92)) [] 4,
  .mk (some p94) none (.bin .eql .num (.t p93) (.c (.int .i64 1))) [] 5,
  .mk (some p95) none (.mv (.t p94)) [] 6,
  .mk (some p96) (some (p95, true)) (.mv (.t p9)) [] 7,
  .mk (some p97) (some (p95, true)) (.mv (.t p10)) [] 8,
  .mk (some p98) (some (p95, true)) (.iaddr 3 (.t p96) (.t p97)) [] 9,
  .mk (some p99) (some (p95, true)) (.faddr 1 (.t p98)) [] 10,
  .mk (some p100) (some (p95, true)) (.load 1 false (.t p99)) [] 11,
  .mk (some p101) (some (p95, true)) (.bin .geq .num (.t p100) (.c (.int .i64 1))) [] 12,
  .mk (some p102) none (.pick (.t p95) (.t p101) (.c (.bool false))) [] 13,
  .mk (some p103) none (.mv (.t p102)) [] 14,
  .mk (some p104) (some (p103, true)) (.mv (.t p9)) [] 15,
  .mk (some p105) (some (p103, true)) (.mv (.t p10)) [] 16,
  .mk (some p106) (some (p103, true)) (.iaddr 3 (.t p104) (.t p105)) [] 17,
  .mk (some p107) (some (p103, true)) (.faddr 1 (.t p106)) [] 18,
  .mk (some p108) (some (p103, true)) (.load 1 false (.t p107)) [] 19,
  .mk (some p109) (some (p103, true)) (.bin .leq .num (.t p108) (.c (.int .i64 2))) [] 20,
  .mk (some p110) none (.pick (.t p103) (.t p109) (.c (.bool false))) [] 21,
  .mk (some p111) none (.mv (.t p110)) [] 22,
  .mk (some p112) (some (p111, true)) (.mv (.t p9)) [] 23,
  .mk (some p113) (some (p111, true)) (.mv (.t p10)) [] 24,
  .mk (some p114) (some (p111, true)) (.iaddr 3 (.t p112) (.t p113)) [] 25,
  .mk (some p115) (some (p111, true)) (.faddr 1 (.t p114)) [] 26,
  .mk (some p116) (some (p111, true)) (.load 1 false (.t p115)) [] 27,
  .mk (some p117) (some (p111, true)) (.faddr 4 (.t p8)) [] 28,
  .mk (some p118) (some (p111, true)) (.load 1 false (.t p117)) [] 29,
  .mk (some p119) (some (p111, true)) (.bin .gtr .num (.t p116) (.t p118)) [] 30,
  .mk (some p120) none (.pick (.t p111) (.t p119) (.c (.bool false))) [] 31] true
def c53_10 : CC := .reg [
  .mk (some p121) none (.mv (.t p9)) [] 0,
  .mk (some p122) none (.mv (.t p10)) [] 1,
  .mk (some p123) none (.iaddr 3 (.t p121) (.t p122)) [] 2,
  .mk (some p124) none (.faddr 1 (.t p123)) [] 3,
  .mk (some p125) none (.load 1 false (.t p124)) [] 4,
  .mk (some p126) none (.faddr 4 (.t p8)) [] 5,
  .mk none none (.store 1 (.t p126) (.t p125)) [] 6] false
def c53_11 : CC := .reg [
  .mk (some p87) none (.mv (.t p10)) [] 0,
  .mk (some p88) none (.bin .add .num (.t p87) (.c (.int .i64 1))) [] 1,
  .mk (some p10) none (.mv (.t p88)) [] 2] false
def c53_12 : CC := .loop (.seq (.seq c53_8 (.cond (.t p86) .skip (.exit 0))) (.seq (.blk 1 (.seq c53_9 (.cond (.t p120) c53_10 .skip))) c53_11))
def c53_13 : CC := .reg [
  .mk (some p127) none (.load 7 true (.t p8)) [] 0,
  .mk none none (.store 7 (.t p4) (.t p127)) [] 1,
  .mk (some p5) none (.mv (.c (.bool true))) [] 2] false
def F53 : CF := .mk 128 [p0, p1] 8 (.seq c53_0 (.seq c53_1 (.seq c53_2 (.seq (.seq c53_3 (.cond (.t p56) (.seq c53_4 .ret) .skip)) (.seq c53_5 (.seq c53_6 (.seq (.seq c53_7 (.blk 0 c53_12)) (.seq c53_13 .ret)))))))) [.cell p4 7 true, .t p5] 1
/- daybook/facts.Check -/
def c54_0 : CC := .reg [
  .mk (some p2) none (.mv (.c (.int .i64 0))) [] 0] false
def c54_1 : CC := .reg [
  .mk (some p3) none (.mv (.t p0)) [] 0,
  .mk (some p4) none (.call (.c (.fn 92 [])) [(.t p3)]) [] 1,
  .mk (some p5) none (.un .not (.t p4)) [] 2] false
def c54_2 : CC := .reg [
  .mk (some p2) none (.mv (.c (.int .i64 60))) [] 0] false
def c54_3 : CC := .reg [
  .mk (some p2) none (.mv (.c (.int .i64 0))) [] 0] false
def F54 : CF := .mk 6 [p0] 3 (.seq c54_0 (.seq (.seq c54_1 (.cond (.t p5) (.seq c54_2 .ret) .skip)) (.seq c54_3 .ret))) [.t p2] 1
/- (*daybook/pull.puller).known -/
def c55_0 : CC := .reg [
  .mk (some p4) none (.mv (.c (.bool false))) [] 0] false
def c55_1 : CC := .reg [
  .mk (some p9) none (.mv (.t p1)) [] 0,
  .mk (some p10) none (.len 1 (.t p9)) [] 1,
  .mk (some p11) none (.mv (.c (.int .i64 0))) [] 2] false
def c55_2 : CC := .reg [
  .mk (some p12) none (.bin .lss .num (.t p11) (.t p10)) [] 0] false
def c55_3 : CC := .reg [
  .mk (some p13) none (.iaddr 11 (.t p9) (.t p11)) [] 0,
  .mk (some p14) none (.load 11 true (.t p13)) [] 1,
  .mk (some p6) none (.alloc 44 [(.bool false), (.str []), (.bool false), (.int .i64 0), (.bool false), (.int .i64 0), (.int .i64 0), (.str []), (.bool false), .nils, (.int .i64 0)]) [] 2,
  .mk none none (.store 11 (.t p6) (.t p14)) [] 3] false
def c55_4 : CC := .reg [
  .mk (some p16) none (.mv (.t p0)) [] 0,
  .mk (some p17) none (.nilck (.t p16)) [] 1,
  .mk (some p18) none (.faddr 1 (.t p17)) [] 2,
  .mk (some p19) none (.load 1 false (.t p18)) [] 3,
  .mk (some p20) none (.faddr 1 (.t p6)) [] 4,
  .mk (some p21) none (.load 1 false (.t p20)) [] 5,
  .mk (some p22) none (.lookup true (.int .i64 0) true (.t p19) (.t p21)) [] 6,
  .mk (some p15) none (.mv (.t p22)) [] 7,
  .mk (some p23) none (.ext 0 (.t p15)) [] 8,
  .mk (some p24) none (.ext 1 (.t p15)) [] 9,
  .mk (some p7) none (.mv (.t p23)) [] 10,
  .mk (some p8) none (.mv (.t p24)) [] 11] true
def c55_5 : CC := .reg [
  .mk (some p25) none (.mv (.t p8)) [] 0,
  .mk (some p26) none (.un .not (.t p25)) [] 1,
  .mk (some p27) none (.mv (.t p26)) [] 2,
  .mk (some p28) (some (p27, true)) (.faddr 0 (.t p6)) [] 3,
  .mk (some p29) (some (p27, true)) (.load 1 false (.t p28)) [] 4,
  .mk (some p30) (some (p27, true)) (.un .not (.t p29)) [] 5,
  .mk (some p31) none (.pick (.t p27) (.t p30) (.c (.bool false))) [] 6,
  .mk (some p32) none (.mv (.t p31)) [] 7,
  .mk (some p33) (some (p32, false)) (.mv (.t p0)) [] 8,
  .mk (some p34) (some (p32, false)) (.faddr 9 (.t p6)) [] 9,
  .mk (some p35) (some (p32, false)) (.load 1 false (.t p34)) [] 10,
  .mk (some p36) (some (p32, false)) (.call (.c (.fn 55 [])) [(.t p33), (.t p35)]) [] 11,
  .mk (some p37) (some (p32, false)) (.un .not (.t p36)) [] 12,
  .mk (some p38) none (.pick (.t p32) (.c (.bool true)) (.t p37)) [] 13] false
def c55_6 : CC := .reg [
  .mk (some p4) none (.mv (.c (.bool false))) [] 0] false
def c55_7 : CC := .reg [
  .mk (some p39) none (.bin .add .num (.t p11) (.c (.int .i64 1))) [] 0,
  .mk (some p11) none (.mv (.t p39)) [] 1] false
def c55_8 : CC := .loop (.seq c55_2 (.seq (.cond (.t p12) .skip (.exit 0)) (.seq (.blk 1 (.seq c55_3 (.seq c55_4 (.seq c55_5 (.cond (.t p38) (.seq c55_6 .ret) .skip))))) c55_7)))
def c55_9 : CC := .reg [
  .mk (some p4) none (.mv (.c (.bool true))) [] 0] false
def F55 : CF := .mk 40 [p0, p1] 6 (.seq c55_0 (.seq (.seq c55_1 (.blk 0 c55_8)) (.seq c55_9 .ret))) [.t p4] 2
/- (*daybook/pull.puller).tree -/
def c56_0 : CC := .reg [
  .mk (some p8) none (.mv (.c .nils)) [] 0] false
def c56_1 : CC := .reg [
  .mk (some p9) none (.mv (.c .nils)) [] 0] false
def c56_2 : CC := .reg [
  .mk (some p13) none (.mv (.t p0)) [] 0,
  .mk (some p14) none (.mv (.t p1)) [] 1,
  .mk (some p15) none (.mv (.t p2)) [] 2,
  .mk (some p16) none (.call (.c (.fn 93 [])) [(.t p13), (.t p14), (.t p15)]) [] 3,
  .mk (some p17) none (.len 1 (.t p16)) [] 4,
  .mk (some p18) none (.mv (.c (.int .i64 0))) [] 5] false
def c56_3 : CC := .reg [
  .mk (some p19) none (.bin .lss .num (.t p18) (.t p17)) [] 0] false
def c56_4 : CC := .reg [
  .mk (some p20) none (.iaddr 11 (.t p16) (.t p18)) [] 0,
  .mk (some p21) none (.load 11 true (.t p20)) [] 1,
  .mk (some p11) none (.alloc 44 [(.bool false), (.str []), (.bool false), (.int .i64 0), (.bool false), (.int .i64 0), (.int .i64 0), (.str []), (.bool false), .nils, (.int .i64 0)]) [] 2,
  .mk none none (.store 11 (.t p11) (.t p21)) [] 3] false
def c56_5 : CC := .reg [
  .mk (some p22) none (.mv (.t p0)) [] 0,
  .mk (some p23) none (.nilck (.t p22)) [] 1,
  .mk (some p24) none (.faddr 4 (.t p23)) [] 2,
  .mk (some p25) none (.load 1 false (.t p24)) [] 3] false
def c56_6 : CC := .reg [
  .mk (some p8) none (.mv (.c .nils)) [] 0] false
def c56_7 : CC := .reg [
  .mk (some p26) none (.mv (.t p0)) [] 0,
  .mk (some p27) none (.mv (.t p1)) [] 1,
  .mk (some p28) none (.load 11 true (.t p11)) [] 2,
  .mk (some p29) none (.mv (.t p2)) [] 3,
  .mk (some p30) none (.mv (.t p3)) [] 4,
  .mk (some p31) none (.call (.c (.fn 94 [])) [(.t p26), (.t p27), (.t p28), (.t p29), (.t p30)]) [] 5,
  .mk (some p12) none (.alloc 74 [(.str []), (.bool false), .nils]) [] 6,
  .mk none none (.store 3 (.t p12) (.t p31)) [] 7] false
def c56_8 : CC := .reg [
  .mk (some p32) none (.faddr 2 (.t p12)) [] 0,
  .mk (some p33) none (.load 1 false (.t p32)) [] 1,
  .mk (some p34) none (.len 1 (.t p33)) [] 2,
  .mk (some p35) none (.bin .gtr .num (.t p34) (.c (.int .i64 0))) [] 3] false
def c56_9 : CC := .reg [
  .mk (some p36) none (.mv (.t p9)) [] 0,
  .mk (some p37) none (.load 3 true (.t p12)) [] 1,
  .mk (some p38) none (.bslice 74 3 [(.str []), (.bool false), .nils] 1 [(0, (.t p37))]) [] 2,
  .mk (some p39) none (.append 74 3 (.t p36) (.t p38)) [] 3,
  .mk (some p9) none (.mv (.t p39)) [] 4] false
def c56_10 : CC := .reg [
  .mk (some p40) none (.bin .add .num (.t p18) (.c (.int .i64 1))) [] 0,
  .mk (some p18) none (.mv (.t p40)) [] 1] false
def c56_11 : CC := .loop (.seq c56_3 (.seq (.cond (.t p19) .skip (.exit 0)) (.seq (.blk 1 (.seq c56_4 (.seq (.seq c56_5 (.cond (.t p25) (.seq c56_6 .ret) .skip)) (.seq c56_7 (.seq c56_8 (.cond (.t p35) c56_9 .skip)))))) c56_10)))
def c56_12 : CC := .reg [
  .mk (some p41) none (.mv (.t p9)) [] 0,
  .mk (some p42) none (.call (.c (.fn 95 [])) [(.t p41), (.c (.fn 96 []))]) [] 1] false
def c56_13 : CC := .reg [
  .mk (some p43) none (.mv (.t p9)) [] 0,
  .mk (some p8) none (.mv (.t p43)) [] 1] false
def F56 : CF := .mk 44 [p0, p1, p2, p3] 6 (.seq c56_0 (.seq c56_1 (.seq (.seq c56_2 (.blk 0 c56_11)) (.seq c56_12 (.seq c56_13 .ret))))) [.t p8] 2
/- daybook/daybooklaw20.fact -/
def c57_0 : CC := .reg [
  .mk (some p5) none (.box 34 (.t p2)) [] 0,
  .mk (some p6) none (.alloc 71 [(.int .i64 0), (.int .i64 0), (.int .i64 0), (.int .i64 0), (.str []), .nils]) [] 1] false
def c57_1 : CC := .reg [
  .mk (some p7) none (.mv (.t p0)) [] 0,
  .mk (some p8) none (.mv (.t p1)) [] 1,
  .mk (some p9) none (.load 3 true (.t p5)) [] 2,
  .mk (some p10) none (.build [(.int .i64 0), (.int .i64 0)] [(0, 1, (.c (.int .i64 (-9223372036854775808)))), (1, 1, (.c (.int .i64 9223372036854775807)))]) [] 3,
  .mk (some p11) none (.bslice 166 2 [(.int .i64 0), (.int .i64 0)] 1 [(0, (.t p10))]) [] 4,
  .mk (some p12) none (.build [(.int .i64 0), (.int .i64 0), (.int .i64 0), (.int .i64 0), (.str []), .nils] [(0, 1, (.t p7)), (1, 1, (.t p8)), (2, 3, (.t p9)), (5, 1, (.t p11))]) [] 5,
  .mk none none (.store 6 (.t p6) (.t p12)) [] 6] false
def F57 : CF := .mk 13 [p0, p1, p2] 4 (.seq c57_0 (.seq c57_1 .ret)) [.cell p6 6 true] 1
/- daybook/daybooklaw20.number -/
def c58_0 : CC := .reg [
  .mk (some p2) none (.alloc 34 [(.int .i64 0), (.int .i64 0), (.str [])]) [] 0] false
def c58_1 : CC := .reg [
  .mk (some p3) none (.mv (.t p0)) [] 0,
  .mk (some p4) none (.build [(.int .i64 0), (.int .i64 0), (.str [])] [(0, 1, (.c (.int .i64 1))), (1, 1, (.t p3))]) [] 1,
  .mk none none (.store 3 (.t p2) (.t p4)) [] 2] false
def F58 : CF := .mk 5 [p0] 3 (.seq c58_0 (.seq c58_1 .ret)) [.cell p2 3 true] 1
/- daybook/daybooklaw20.ref -/
def c59_0 : CC := .reg [
  .mk (some p2) none (.alloc 34 [(.int .i64 0), (.int .i64 0), (.str [])]) [] 0] false
def c59_1 : CC := .reg [
  .mk (some p3) none (.mv (.t p0)) [] 0,
  .mk (some p4) none (.build [(.int .i64 0), (.int .i64 0), (.str [])] [(0, 1, (.c (.int .i64 5))), (1, 1, (.t p3))]) [] 1,
  .mk none none (.store 3 (.t p2) (.t p4)) [] 2] false
def F59 : CF := .mk 5 [p0] 3 (.seq c59_0 (.seq c59_1 .ret)) [.cell p2 3 true] 1
/- daybook/pull.may -/
def c60_0 : CC := .reg [
  .mk (some p6) none (.mv (.c (.bool false))) [] 0] false
def c60_1 : CC := .reg [
  .mk (some p11) none (.mv (.t p1)) [] 0,
  .mk (some p12) none (.bin .gtr .num (.t p11) (.c (.int .i64 20))) [] 1] false
def c60_2 : CC := .reg [
  .mk (some p6) none (.mv (.c (.bool false))) [] 0] false
def c60_3 : CC := .reg [
  .mk (some p13) none (.mv (.t p0)) [] 0,
  .mk (some p14) none (.len 1 (.t p13)) [] 1,
  .mk (some p15) none (.mv (.c (.int .i64 0))) [] 2] false
def c60_4 : CC := .reg [
  .mk (some p16) none (.bin .lss .num (.t p15) (.t p14)) [] 0] false
def c60_5 : CC := .reg [
  .mk (some p17) none (.mv (.t p15)) [] 0,
  .mk (some p18) none (.iaddr 3 (.t p13) (.t p15)) [] 1,
  .mk (some p19) none (.load 3 true (.t p18)) [] 2,
  .mk (some p8) none (.alloc 74 [(.str []), (.bool false), .nils]) [] 3,
  .mk (some p7) none (.mv (.t p17)) [] 4,
  .mk none none (.store 3 (.t p8) (.t p19)) [] 5] false
def c60_6 : CC := .reg [
  .mk (some p20) none (.faddr 2 (.t p8)) [] 0,
  .mk (some p21) none (.load 1 false (.t p20)) [] 1,
  .mk (some p22) none (.len 1 (.t p21)) [] 2,
  .mk (some p23) none (.bin .eql .num (.t p22) (.c (.int .i64 0))) [] 3,
  .mk (some p24) none (.mv (.t p23)) [] 4,
  .mk (some p25) (some (p24, false)) (.faddr 0 (.t p8)) [] 5,
  .mk (some p26) (some (p24, false)) (.load 1 false (.t p25)) [] 6,
  .mk (some p27) (some (p24, false)) (.build [(.int .i64 0), (.int .i64 0), (.str [])] [(0, 1, (.c (.int .i64 7))), (2, 1, (.t p26))]) [] 7,
  .mk (some p28) (some (p24, false)) (.call (.c (.fn 97 [])) [(.t p27)]) [] 8,
  .mk (some p29) (some (p24, false)) (.bin .neq .num (.t p28) (.c (.int .i64 0))) [] 9,
  .mk (some p30) none (.pick (.t p24) (.c (.bool true)) (.t p29)) [] 10,
  .mk (some p31) none (.mv (.t p30)) [] 11,
  .mk (some p32) (some (p31, false)) (.mv (.t p7)) [] 12,
  .mk (some p33) (some (p31, false)) (.bin .gtr .num (.t p32) (.c (.int .i64 0))) [] 13,
  .mk (some p34) (some (p31, false)) (.mv (.t p33)) [] 14,
  .mk (some p35) (some (p34, true)) (.mv (.t p0)) [] 15,
  .mk (some p36) (some (p34, true)) (.mv (.t p7)) [] 16,
  .mk (some p37) (some (p34, true)) (.bin .sub .num (.t p36) (.c (.int .i64 1))) [] 17,
  .mk (some p38) (some (p34, true)) (.iaddr 3 (.t p35) (.t p37)) [] 18,
  .mk (some p39) (some (p34, true)) (.load 3 true (.t p38)) [] 19,
  .mk (some p40) (some (p34, true)) (.load 3 true (.t p8)) [] 20,
  .mk (some p41) (some (p34, true)) (.call (.c (.fn 96 [])) [(.t p39), (.t p40)]) [] 21,
  .mk (some p42) (some (p34, true)) (.bin .geq .num (.t p41) (.c (.int .i64 0))) [] 22,
  .mk (some p43) (some (p31, false)) (.pick (.t p34) (.t p42) (.c (.bool false))) [] 23,
  .mk (some p44) none (.pick (.t p31) (.c (.bool true)) (.t p43)) [] 24] true
def c60_7 : CC := .reg [
  .mk (some p6) none (.mv (.c (.bool false))) [] 0] false
def c60_8 : CC := .reg [
  .mk (some p45) none (.faddr 2 (.t p8)) [] 0,
  .mk (some p46) none (.load 1 false (.t p45)) [] 1,
  .mk (some p47) none (.len 1 (.t p46)) [] 2,
  .mk (some p48) none (.mv (.c (.int .i64 0))) [] 3] false
def c60_9 : CC := .reg [
  .mk (some p49) none (.bin .lss .num (.t p48) (.t p47)) [] 0] false
def c60_10 : CC := .reg [
  .mk (some p50) none (.iaddr 5 (.t p46) (.t p48)) [] 0,
  .mk (some p51) none (.load 5 true (.t p50)) [] 1,
  .mk (some p10) none (.alloc 76 [(.int .i64 0), (.int .i64 0), (.str []), (.bool false), .nils]) [] 2,
  .mk none none (.store 5 (.t p10) (.t p51)) [] 3] false
def c60_11 : CC := .reg [
  .mk (some p52) none (.mv (.t p2)) [] 0,
  .mk (some p53) none (.nilck (.t p52)) [] 1,
  .mk (some p54) none (.load 1 false (.t p53)) [] 2,
  .mk (some p55) none (.bin .add .num (.t p54) (.c (.int .i64 1))) [] 3,
  .mk (some p56) none (.nilck (.t p52)) [] 4,
  .mk none none (.store 1 (.t p56) (.t p55)) [] 5] false
def c60_12 : CC := .reg [
  .mk (some p57) none (.mv (.t p2)) [] 0,
  .mk (some p58) none (.nilck (.t p57)) [] 1,
  .mk (some p59) none (.load 1 false (.t p58)) [] 2,
  .mk (some p60) none (.bin .gtr .num (.t p59) (.c (.int .i64 1000))) [] 3,
  .mk (some p61) none (.mv (.t p60)) [] 4,
  .mk (some p62) (some (p61, false)) (.faddr 0 (.t p10)) [] 5,
  .mk (some p63) (some (p61, false)) (.load 3 true (.t p62)) [] 6,
  .mk (some p64) (some (p61, false)) (.call (.c (.fn 97 [])) [(.t p63)]) [] 7,
  .mk (some p65) (some (p61, false)) (.bin .neq .num (.t p64) (.c (.int .i64 0))) [] 8,
  .mk (some p66) none (.pick (.t p61) (.c (.bool true)) (.t p65)) [] 9,
  .mk (some p67) none (.mv (.t p66)) [] 10,
  .mk (some p68) (some (p67, false)) (.faddr 3 (.t p10)) [] 11,
  .mk (some p69) (some (p67, false)) (.load 1 false (.t p68)) [] 12,
  .mk (some p70) (some (p67, false)) (.un .not (.t p69)) [] 13,
  .mk (some p71) (some (p67, false)) (.mv (.t p70)) [] 14,
  .mk (some p72) (some (p71, true)) (.faddr 4 (.t p10)) [] 15,
  .mk (some p73) (some (p71, true)) (.load 1 false (.t p72)) [] 16,
  .mk (some p74) (some (p71, true)) (.len 1 (.t p73)) [] 17,
  .mk (some p75) (some (p71, true)) (.bin .gtr .num (.t p74) (.c (.int .i64 0))) [] 18,
  .mk (some p76) (some (p67, false)) (.pick (.t p71) (.t p75) (.c (.bool false))) [] 19,
  .mk (some p77) none (.pick (.t p67) (.c (.bool true)) (.t p76)) [] 20,
  .mk (some p78) none (.mv (.t p77)) [] 21,
  .mk (some p79) (some (p78, false)) (.faddr 3 (.t p10)) [] 22,
  .mk (some p80) (some (p78, false)) (.load 1 false (.t p79)) [] 23,
  .mk (some p81) (some (p78, false)) (.mv (.t p80)) [] 24,
  .mk (some p82) (some (p81, true)) (.faddr 0 (.t p10)) [] 25,
  .mk (some p83) (some (p81, true)) (.faddr 0 (.t p82)) [] 26,
  .mk (some p84) (some (p81, true)) (.load 1 false (.t p83)) [] 27,
  .mk (some p85) (some (p81, true)) (.bin .neq .num (.t p84) (.c (.int .i64 5))) [] 28,
  .mk (some p86) (some (p81, true)) (.mv (.t p85)) [] 29,
  .mk (some p87) (some (p86, false)) (.faddr 4 (.t p10)) [] 30,
  .mk (some p88) (some (p86, false)) (.load 1 false (.t p87)) [] 31,
  .mk (some p89) (some (p86, false)) (.mv (.t p1)) [] 32,
  .mk (some p90) (some (p86, false)) (.bin .add .num (.t p89) (.c (.int .i64 1))) [] 33,
  .mk (some p91) (some (p86, false)) (.mv (.t p2)) [] 34,
  .mk (some p92) (some (p86, false)) (.call (.c (.fn 60 [])) [(.t p88), (.t p90), (.t p91)]) [] 35,
  .mk (some p93) (some (p86, false)) (.un .not (.t p92)) [] 36,
  .mk (some p94) (some (p81, true)) (.pick (.t p86) (.c (.bool true)) (.t p93)) [] 37,
  .mk (some p95) (some (p78, false)) (.pick (.t p81) (.t p94) (.c (.bool false))) [] 38,
  .mk (some p96) none (.pick (.t p78) (.c (.bool true)) (.t p95)) [] 39] false
def c60_13 : CC := .reg [
  .mk (some p6) none (.mv (.c (.bool false))) [] 0] false
def c60_14 : CC := .reg [
  .mk (some p97) none (.bin .add .num (.t p48) (.c (.int .i64 1))) [] 0,
  .mk (some p48) none (.mv (.t p97)) [] 1] false
def c60_15 : CC := .loop (.seq c60_9 (.seq (.cond (.t p49) .skip (.exit 2)) (.seq (.blk 3 (.seq c60_10 (.seq c60_11 (.seq c60_12 (.cond (.t p96) (.seq c60_13 .ret) .skip))))) c60_14)))
def c60_16 : CC := .reg [
  .mk (some p98) none (.bin .add .num (.t p15) (.c (.int .i64 1))) [] 0,
  .mk (some p15) none (.mv (.t p98)) [] 1] false
def c60_17 : CC := .loop (.seq c60_4 (.seq (.cond (.t p16) .skip (.exit 0)) (.seq (.blk 1 (.seq c60_5 (.seq (.seq c60_6 (.cond (.t p44) (.seq c60_7 .ret) .skip)) (.seq c60_8 (.blk 2 c60_15))))) c60_16)))
def c60_18 : CC := .reg [
  .mk (some p6) none (.mv (.c (.bool true))) [] 0] false
def F60 : CF := .mk 99 [p0, p1, p2] 7 (.seq c60_0 (.seq (.seq c60_1 (.cond (.t p12) (.seq c60_2 .ret) .skip)) (.seq (.seq c60_3 (.blk 0 c60_17)) (.seq c60_18 .ret)))) [.t p6] 2
/- daybook/pull.node -/
def c61_0 : CC := .reg [
  .mk (some p2) none (.alloc 36 [(.int .i64 0), (.int .i64 0), (.int .i64 0), (.str []), (.str []), .nils, (.int .i64 0), (.int .i64 0)]) [] 0] false
def c61_1 : CC := .reg [
  .mk (some p11) none (.build [(.int .i64 0), (.int .i64 0), (.int .i64 0), (.str []), (.str []), .nils, (.int .i64 0), (.int .i64 0)] [(0, 1, (.c (.int .i64 5)))]) [] 0,
  .mk (some p3) none (.alloc 36 [(.int .i64 0), (.int .i64 0), (.int .i64 0), (.str []), (.str []), .nils, (.int .i64 0), (.int .i64 0)]) [] 1,
  .mk none none (.store 8 (.t p3) (.t p11)) [] 2] false
def c61_2 : CC := .reg [
  .mk (some p12) none (.mv (.t p0)) [] 0,
  .mk (some p13) none (.len 1 (.t p12)) [] 1,
  .mk (some p14) none (.mv (.c (.int .i64 0))) [] 2] false
def c61_3 : CC := .reg [
  .mk (some p15) none (.bin .lss .num (.t p14) (.t p13)) [] 0] false
def c61_4 : CC := .reg [
  .mk (some p16) none (.iaddr 3 (.t p12) (.t p14)) [] 0,
  .mk (some p17) none (.load 3 true (.t p16)) [] 1,
  .mk (some p5) none (.alloc 74 [(.str []), (.bool false), .nils]) [] 2,
  .mk none none (.store 3 (.t p5) (.t p17)) [] 3] false
def c61_5 : CC := .reg [
  .mk (some p18) none (.faddr 0 (.t p5)) [] 0,
  .mk (some p19) none (.load 1 false (.t p18)) [] 1,
  .mk (some p20) none (.build [(.int .i64 0), (.int .i64 0), (.str [])] [(0, 1, (.c (.int .i64 7))), (2, 1, (.t p19))]) [] 2,
  .mk (some p21) none (.call (.c (.fn 98 [])) [(.t p20)]) [] 3,
  .mk (some p6) none (.alloc 36 [(.int .i64 0), (.int .i64 0), (.int .i64 0), (.str []), (.str []), .nils, (.int .i64 0), (.int .i64 0)]) [] 4,
  .mk none none (.store 8 (.t p6) (.t p21)) [] 5] false
def c61_6 : CC := .reg [
  .mk (some p22) none (.faddr 1 (.t p5)) [] 0,
  .mk (some p23) none (.load 1 false (.t p22)) [] 1] false
def c61_7 : CC := .reg [
  .mk (some p24) none (.load 8 true (.t p6)) [] 0,
  .mk (some p25) none (.build [(.int .i64 0), (.int .i64 0), (.int .i64 0), (.str []), (.str []), .nils, (.int .i64 0), (.int .i64 0)] [(0, 1, (.c (.int .i64 2))), (4, 1, (.c (.str [98, 97, 99, 107])))]) [] 1,
  .mk (some p26) none (.bslice 36 8 [(.int .i64 0), (.int .i64 0), (.int .i64 0), (.str []), (.str []), .nils, (.int .i64 0), (.int .i64 0)] 2 [(0, (.t p24)), (1, (.t p25))]) [] 2,
  .mk (some p27) none (.build [(.int .i64 0), (.int .i64 0), (.int .i64 0), (.str []), (.str []), .nils, (.int .i64 0), (.int .i64 0)] [(0, 1, (.c (.int .i64 3))), (5, 1, (.t p26))]) [] 3,
  .mk none none (.store 8 (.t p6) (.t p27)) [] 4] false
def c61_8 : CC := .reg [
  .mk (some p28) none (.build [(.int .i64 0), (.int .i64 0), (.int .i64 0), (.str []), (.str []), .nils, (.int .i64 0), (.int .i64 0)] [(0, 1, (.c (.int .i64 4)))]) [] 0,
  .mk (some p7) none (.alloc 36 [(.int .i64 0), (.int .i64 0), (.int .i64 0), (.str []), (.str []), .nils, (.int .i64 0), (.int .i64 0)]) [] 1,
  .mk none none (.store 8 (.t p7) (.t p28)) [] 2] false
def c61_9 : CC := .reg [
  .mk (some p29) none (.faddr 2 (.t p5)) [] 0,
  .mk (some p30) none (.load 1 false (.t p29)) [] 1,
  .mk (some p31) none (.len 1 (.t p30)) [] 2,
  .mk (some p32) none (.mv (.c (.int .i64 0))) [] 3] false
def c61_10 : CC := .reg [
  .mk (some p33) none (.bin .lss .num (.t p32) (.t p31)) [] 0] false
def c61_11 : CC := .reg [
  .mk (some p34) none (.iaddr 5 (.t p30) (.t p32)) [] 0,
  .mk (some p35) none (.load 5 true (.t p34)) [] 1,
  .mk (some p9) none (.alloc 76 [(.int .i64 0), (.int .i64 0), (.str []), (.bool false), .nils]) [] 2,
  .mk none none (.store 5 (.t p9) (.t p35)) [] 3] false
def c61_12 : CC := .reg [
  .mk (some p36) none (.faddr 0 (.t p9)) [] 0,
  .mk (some p37) none (.load 3 true (.t p36)) [] 1,
  .mk (some p38) none (.call (.c (.fn 98 [])) [(.t p37)]) [] 2,
  .mk (some p10) none (.alloc 36 [(.int .i64 0), (.int .i64 0), (.int .i64 0), (.str []), (.str []), .nils, (.int .i64 0), (.int .i64 0)]) [] 3,
  .mk none none (.store 8 (.t p10) (.t p38)) [] 4] false
def c61_13 : CC := .reg [
  .mk (some p39) none (.faddr 3 (.t p9)) [] 0,
  .mk (some p40) none (.load 1 false (.t p39)) [] 1] false
def c61_14 : CC := .reg [
  .mk (some p41) none (.load 8 true (.t p10)) [3] 0,
  .mk (some p42) none (.faddr 4 (.t p9)) [] 1,
  .mk (some p43) none (.load 1 false (.t p42)) [] 2,
  .mk (some p44) none (.call (.c (.fn 61 [])) [(.t p43)]) [] 3,
  .mk (some p45) none (.bslice 36 8 [(.int .i64 0), (.int .i64 0), (.int .i64 0), (.str []), (.str []), .nils, (.int .i64 0), (.int .i64 0)] 2 [(0, (.t p41)), (1, (.t p44))]) [] 4,
  .mk (some p46) none (.build [(.int .i64 0), (.int .i64 0), (.int .i64 0), (.str []), (.str []), .nils, (.int .i64 0), (.int .i64 0)] [(0, 1, (.c (.int .i64 3))), (5, 1, (.t p45))]) [] 5,
  .mk none none (.store 8 (.t p10) (.t p46)) [] 6] true
def c61_15 : CC := .reg [
  .mk (some p47) none (.faddr 5 (.t p7)) [] 0,
  .mk (some p48) none (.load 1 false (.t p47)) [] 1,
  .mk (some p49) none (.load 8 true (.t p10)) [] 2,
  .mk (some p50) none (.bslice 36 8 [(.int .i64 0), (.int .i64 0), (.int .i64 0), (.str []), (.str []), .nils, (.int .i64 0), (.int .i64 0)] 1 [(0, (.t p49))]) [] 3,
  .mk (some p51) none (.append 36 8 (.t p48) (.t p50)) [] 4,
  .mk (some p52) none (.faddr 5 (.t p7)) [] 5,
  .mk none none (.store 1 (.t p52) (.t p51)) [] 6] false
def c61_16 : CC := .reg [
  .mk (some p53) none (.bin .add .num (.t p32) (.c (.int .i64 1))) [] 0,
  .mk (some p32) none (.mv (.t p53)) [] 1] false
def c61_17 : CC := .loop (.seq c61_10 (.seq (.cond (.t p33) .skip (.exit 2)) (.seq (.blk 3 (.seq c61_11 (.seq c61_12 (.seq (.seq c61_13 (.cond (.t p40) c61_14 .skip)) c61_15)))) c61_16)))
def c61_18 : CC := .reg [
  .mk (some p54) none (.faddr 5 (.t p3)) [] 0,
  .mk (some p55) none (.load 1 false (.t p54)) [] 1,
  .mk (some p56) none (.load 8 true (.t p6)) [] 2,
  .mk (some p57) none (.load 8 true (.t p7)) [] 3,
  .mk (some p58) none (.bslice 36 8 [(.int .i64 0), (.int .i64 0), (.int .i64 0), (.str []), (.str []), .nils, (.int .i64 0), (.int .i64 0)] 2 [(0, (.t p56)), (1, (.t p57))]) [] 4,
  .mk (some p59) none (.append 36 8 (.t p55) (.t p58)) [] 5,
  .mk (some p60) none (.faddr 5 (.t p3)) [] 6,
  .mk none none (.store 1 (.t p60) (.t p59)) [] 7] false
def c61_19 : CC := .reg [
  .mk (some p61) none (.bin .add .num (.t p14) (.c (.int .i64 1))) [] 0,
  .mk (some p14) none (.mv (.t p61)) [] 1] false
def c61_20 : CC := .loop (.seq c61_3 (.seq (.cond (.t p15) .skip (.exit 0)) (.seq (.blk 1 (.seq c61_4 (.seq c61_5 (.seq (.seq c61_6 (.cond (.t p23) c61_7 .skip)) (.seq c61_8 (.seq (.seq c61_9 (.blk 2 c61_17)) c61_18)))))) c61_19)))
def c61_21 : CC := .reg [
  .mk (some p62) none (.load 8 true (.t p3)) [] 0,
  .mk none none (.store 8 (.t p2) (.t p62)) [] 1] false
def F61 : CF := .mk 63 [p0] 6 (.seq c61_0 (.seq c61_1 (.seq (.seq c61_2 (.blk 0 c61_20)) (.seq c61_21 .ret)))) [.cell p2 8 true] 1
/- daybook/pull.tree -/
def c62_0 : CC := .reg [
  .mk (some p2) none (.box 36 (.t p0)) [] 0,
  .mk (some p3) none (.box 3 (.t p1)) [] 1,
  .mk (some p4) none (.alloc 58 [.nils]) [] 2,
  .mk (some p5) none (.alloc 4 [(.bool false)]) [] 3] false
def c62_1 : CC := .reg [
  .mk (some p15) none (.faddr 0 (.t p2)) [] 0,
  .mk (some p16) none (.load 1 false (.t p15)) [] 1,
  .mk (some p17) none (.bin .neq .num (.t p16) (.c (.int .i64 5))) [] 2,
  .mk (some p18) none (.mv (.t p17)) [] 3,
  .mk (some p19) (some (p18, false)) (.faddr 5 (.t p2)) [] 4,
  .mk (some p20) (some (p18, false)) (.load 1 false (.t p19)) [] 5,
  .mk (some p21) (some (p18, false)) (.len 1 (.t p20)) [] 6,
  .mk (some p22) (some (p18, false)) (.bin .rem .num (.t p21) (.c (.int .i64 2))) [] 7,
  .mk (some p23) (some (p18, false)) (.bin .neq .num (.t p22) (.c (.int .i64 0))) [] 8,
  .mk (some p24) none (.pick (.t p18) (.c (.bool true)) (.t p23)) [] 9,
  .mk (some p25) none (.mv (.t p24)) [] 10,
  .mk (some p26) (some (p25, false)) (.load 1 false (.t p3)) [] 11,
  .mk (some p27) (some (p25, false)) (.bin .gtr .num (.t p26) (.c (.int .i64 20))) [] 12,
  .mk (some p28) none (.pick (.t p25) (.c (.bool true)) (.t p27)) [] 13] false
def c62_2 : CC := .reg [
  .mk none none (.store 1 (.t p4) (.c .nils)) [] 0,
  .mk none none (.store 1 (.t p5) (.c (.bool false))) [] 1] false
def c62_3 : CC := .reg [
  .mk (some p6) none (.alloc 58 [.nils]) [] 0] false
def c62_4 : CC := .reg [
  .mk (some p29) none (.faddr 5 (.t p2)) [] 0,
  .mk (some p30) none (.load 1 false (.t p29)) [] 1,
  .mk (some p31) none (.call (.c (.fn 99 [])) [(.t p30), (.c (.int .i64 2))]) [] 2] false
def c62_5 : CC := .reg [
  .mk (some p7) none (.mv (.t p32)) [] 0] false
def c62_6 : CC := .reg [
  .mk (some p33) none (.mv (.t p7)) [] 0,
  .mk (some p34) none (.iaddr 8 (.t p33) (.c (.int .i64 0))) [] 1,
  .mk (some p35) none (.load 8 true (.t p34)) [] 2,
  .mk (some p36) none (.mv (.t p7)) [] 3,
  .mk (some p37) none (.iaddr 8 (.t p36) (.c (.int .i64 1))) [] 4,
  .mk (some p38) none (.load 8 true (.t p37)) [8] 5,
  .mk (some p8) none (.alloc 36 [(.int .i64 0), (.int .i64 0), (.int .i64 0), (.str []), (.str []), .nils, (.int .i64 0), (.int .i64 0)]) [] 6,
  .mk (some p9) none (.alloc 36 [(.int .i64 0), (.int .i64 0), (.int .i64 0), (.str []), (.str []), .nils, (.int .i64 0), (.int .i64 0)]) [] 7,
  .mk none none (.store 8 (.t p8) (.t p35)) [] 8,
  .mk none none (.store 8 (.t p9) (.t p38)) [] 9] true
def c62_7 : CC := .reg [
  .mk (some p39) none (.faddr 1 (.t p8)) [] 0,
  .mk (some p40) none (.faddr 2 (.t p39)) [] 1,
  .mk (some p41) none (.load 1 false (.t p40)) [] 2,
  .mk (some p42) none (.build [(.str []), (.bool false), .nils] [(0, 1, (.t p41))]) [] 3,
  .mk (some p10) none (.alloc 74 [(.str []), (.bool false), .nils]) [] 4,
  .mk none none (.store 3 (.t p10) (.t p42)) [] 5] false
def c62_8 : CC := .reg [
  .mk (some p43) none (.faddr 0 (.t p8)) [] 0,
  .mk (some p44) none (.load 1 false (.t p43)) [] 1,
  .mk (some p45) none (.bin .eql .num (.t p44) (.c (.int .i64 3))) [] 2,
  .mk (some p46) none (.mv (.t p45)) [] 3,
  .mk (some p47) (some (p46, true)) (.faddr 5 (.t p8)) [] 4,
  .mk (some p48) (some (p46, true)) (.load 1 false (.t p47)) [] 5,
  .mk (some p49) (some (p46, true)) (.len 1 (.t p48)) [] 6,
  .mk (some p50) (some (p46, true)) (.bin .eql .num (.t p49) (.c (.int .i64 2))) [] 7,
  .mk (some p51) none (.pick (.t p46) (.t p50) (.c (.bool false))) [] 8] false
def c62_9 : CC := .reg [
  .mk (some p52) none (.faddr 5 (.t p8)) [] 0,
  .mk (some p53) none (.load 1 false (.t p52)) [] 1,
  .mk (some p54) none (.iaddr 8 (.t p53) (.c (.int .i64 0))) [] 2,
  .mk (some p55) none (.faddr 1 (.t p54)) [] 3,
  .mk (some p56) none (.faddr 2 (.t p55)) [] 4,
  .mk (some p57) none (.load 1 false (.t p56)) [] 5,
  .mk (some p58) none (.build [(.str []), (.bool false), .nils] [(0, 1, (.t p57)), (1, 1, (.c (.bool true)))]) [] 6,
  .mk none none (.store 3 (.t p10) (.t p58)) [] 7] false
def c62_10 : CC := .reg [
  .mk (some p59) none (.faddr 5 (.t p9)) [] 0,
  .mk (some p60) none (.load 1 false (.t p59)) [] 1,
  .mk (some p61) none (.len 1 (.t p60)) [] 2,
  .mk (some p62) none (.mv (.c (.int .i64 0))) [] 3] false
def c62_11 : CC := .reg [
  .mk (some p63) none (.bin .lss .num (.t p62) (.t p61)) [] 0] false
def c62_12 : CC := .reg [
  .mk (some p64) none (.iaddr 8 (.t p60) (.t p62)) [] 0,
  .mk (some p65) none (.load 8 true (.t p64)) [] 1,
  .mk (some p12) none (.alloc 36 [(.int .i64 0), (.int .i64 0), (.int .i64 0), (.str []), (.str []), .nils, (.int .i64 0), (.int .i64 0)]) [] 2,
  .mk none none (.store 8 (.t p12) (.t p65)) [] 3] false
def c62_13 : CC := .reg [
  .mk (some p67) none (.load 8 true (.t p12)) [] 0,
  .mk (some p68) none (.load 1 false (.t p3)) [] 1,
  .mk (some p69) none (.call (.c (.fn 100 [])) [(.t p67), (.t p68)]) [] 2,
  .mk (some p66) none (.mv (.t p69)) [] 3,
  .mk (some p70) none (.ext 0 (.t p66)) [] 4,
  .mk (some p71) none (.ext 1 (.t p66)) [] 5,
  .mk (some p13) none (.alloc 76 [(.int .i64 0), (.int .i64 0), (.str []), (.bool false), .nils]) [] 6,
  .mk none none (.store 5 (.t p13) (.t p70)) [] 7,
  .mk (some p14) none (.mv (.t p71)) [] 8] false
def c62_14 : CC := .reg [
  .mk (some p72) none (.mv (.t p14)) [] 0,
  .mk (some p73) none (.un .not (.t p72)) [] 1] false
def c62_15 : CC := .reg [
  .mk none none (.store 1 (.t p4) (.c .nils)) [] 0,
  .mk none none (.store 1 (.t p5) (.c (.bool false))) [] 1] false
def c62_16 : CC := .reg [
  .mk (some p74) none (.faddr 2 (.t p10)) [] 0,
  .mk (some p75) none (.load 1 false (.t p74)) [] 1,
  .mk (some p76) none (.load 5 true (.t p13)) [] 2,
  .mk (some p77) none (.bslice 76 5 [(.int .i64 0), (.int .i64 0), (.str []), (.bool false), .nils] 1 [(0, (.t p76))]) [] 3,
  .mk (some p78) none (.append 76 5 (.t p75) (.t p77)) [] 4,
  .mk (some p79) none (.faddr 2 (.t p10)) [] 5,
  .mk none none (.store 1 (.t p79) (.t p78)) [] 6] false
def c62_17 : CC := .reg [
  .mk (some p80) none (.bin .add .num (.t p62) (.c (.int .i64 1))) [] 0,
  .mk (some p62) none (.mv (.t p80)) [] 1] false
def c62_18 : CC := .loop (.seq c62_11 (.seq (.cond (.t p63) .skip (.exit 2)) (.seq (.blk 3 (.seq c62_12 (.seq c62_13 (.seq (.seq c62_14 (.cond (.t p73) (.seq c62_15 .ret) .skip)) c62_16)))) c62_17)))
def c62_19 : CC := .reg [
  .mk (some p81) none (.load 1 false (.t p6)) [] 0,
  .mk (some p82) none (.load 3 true (.t p10)) [] 1,
  .mk (some p83) none (.bslice 74 3 [(.str []), (.bool false), .nils] 1 [(0, (.t p82))]) [] 2,
  .mk (some p84) none (.append 74 3 (.t p81) (.t p83)) [] 3,
  .mk none none (.store 1 (.t p6) (.t p84)) [] 4] false
def c62_20 : CC := .rng (.t p31) [p32] c62_5 (.blk 1 (.seq c62_6 (.seq c62_7 (.seq (.seq c62_8 (.cond (.t p51) c62_9 .skip)) (.seq (.seq c62_10 (.blk 2 c62_18)) c62_19)))))
def c62_21 : CC := .reg [
  .mk (some p85) none (.load 1 false (.t p6)) [] 0,
  .mk none none (.store 1 (.t p4) (.t p85)) [] 1,
  .mk none none (.store 1 (.t p5) (.c (.bool true))) [] 2] false
def F62 : CF := .mk 86 [p0, p1] 7 (.seq c62_0 (.seq (.seq c62_1 (.cond (.t p28) (.seq c62_2 .ret) .skip)) (.seq c62_3 (.seq (.seq c62_4 (.blk 0 c62_20)) (.seq c62_21 .ret))))) [.cell p4 1 false, .cell p5 1 false] 1
/- daybook/pull.same -/
def c63_0 : CC := .reg [
  .mk (some p2) none (.box 36 (.t p0)) [] 0,
  .mk (some p3) none (.box 36 (.t p1)) [] 1,
  .mk (some p4) none (.mv (.c (.bool false))) [] 2] false
def c63_1 : CC := .reg [
  .mk (some p5) none (.faddr 0 (.t p2)) [] 0,
  .mk (some p6) none (.load 1 false (.t p5)) [] 1,
  .mk (some p7) none (.faddr 0 (.t p3)) [] 2,
  .mk (some p8) none (.load 1 false (.t p7)) [] 3,
  .mk (some p9) none (.bin .eql .num (.t p6) (.t p8)) [] 4,
  .mk (some p10) none (.mv (.t p9)) [] 5,
  .mk (some p11) (some (p10, true)) (.faddr 1 (.t p2)) [] 6,
  .mk (some p12) (some (p10, true)) (.load 3 true (.t p11)) [] 7,
  .mk (some p13) (some (p10, true)) (.faddr 1 (.t p3)) [] 8,
  .mk (some p14) (some (p10, true)) (.load 3 true (.t p13)) [] 9,
  .mk (some p15) (some (p10, true)) (.bin .eql (.cells [.i, .i, .s]) (.t p12) (.t p14)) [] 10,
  .mk (some p16) none (.pick (.t p10) (.t p15) (.c (.bool false))) [] 11,
  .mk (some p17) none (.mv (.t p16)) [] 12,
  .mk (some p18) (some (p17, true)) (.faddr 4 (.t p2)) [] 13,
  .mk (some p19) (some (p17, true)) (.load 1 false (.t p18)) [] 14,
  .mk (some p20) (some (p17, true)) (.faddr 4 (.t p3)) [] 15,
  .mk (some p21) (some (p17, true)) (.load 1 false (.t p20)) [] 16,
  .mk (some p22) (some (p17, true)) (.bin .eql .num (.t p19) (.t p21)) [] 17,
  .mk (some p23) none (.pick (.t p17) (.t p22) (.c (.bool false))) [] 18,
  .mk (some p24) none (.mv (.t p23)) [] 19,
  .mk (some p25) (some (p24, true)) (.faddr 5 (.t p2)) [] 20,
  .mk (some p26) (some (p24, true)) (.load 1 false (.t p25)) [] 21,
  .mk (some p27) (some (p24, true)) (.faddr 5 (.t p3)) [] 22,
  .mk (some p28) (some (p24, true)) (.load 1 false (.t p27)) [] 23,
  .mk (some p29) (some (p24, true)) (.call (.c (.fn 78 [])) [(.t p26), (.t p28), (.c (.fn 63 []))]) [] 24,
  .mk (some p30) none (.pick (.t p24) (.t p29) (.c (.bool false))) [] 25,
  .mk (some p4) none (.mv (.t p30)) [] 26] false
def F63 : CF := .mk 31 [p0, p1] 5 (.seq c63_0 (.seq c63_1 .ret)) [.t p4] 1
/- daybook/text.tokens -/
def c64_0 : CC := .reg [
  .mk (some p1) none (.box 9 (.t p0)) [] 0,
  .mk (some p2) none (.mv (.c .nilf)) [] 1] false
def c64_1 : CC := .reg [
  .mk (some p3) none (.mkfn 101 [(.t p1)]) [] 0,
  .mk (some p2) none (.mv (.t p3)) [] 1] false
def F64 : CF := .mk 4 [p0] 3 (.seq c64_0 (.seq c64_1 .ret)) [.t p2] 0
/- daybook/value.Parse -/
def c67_0 : CC := .reg [
  .mk (some p2) none (.alloc 34 [(.int .i64 0), (.int .i64 0), (.str [])]) [] 0,
  .mk (some p3) none (.mv (.c (.int .i64 0))) [] 1] false
def c67_1 : CC := .reg [
  .mk (some p7) none (.mv (.t p0)) [] 0,
  .mk (some p8) none (.call (.c (.fn 106 [])) [(.t p7)]) [] 1,
  .mk (some p6) none (.mv (.t p8)) [] 2,
  .mk (some p9) none (.ext 0 (.t p6)) [] 3,
  .mk (some p10) none (.ext 1 (.t p6)) [] 4,
  .mk (some p4) none (.alloc 34 [(.int .i64 0), (.int .i64 0), (.str [])]) [] 5,
  .mk none none (.store 3 (.t p4) (.t p9)) [] 6,
  .mk (some p5) none (.mv (.t p10)) [] 7] false
def c67_2 : CC := .reg [
  .mk (some p11) none (.mv (.t p5)) [] 0,
  .mk (some p12) none (.un .not (.t p11)) [] 1,
  .mk (some p13) none (.mv (.t p12)) [] 2,
  .mk (some p14) (some (p13, false)) (.load 3 true (.t p4)) [] 3,
  .mk (some p15) (some (p13, false)) (.call (.c (.fn 107 [])) [(.t p14)]) [] 4,
  .mk (some p16) (some (p13, false)) (.un .not (.t p15)) [] 5,
  .mk (some p17) none (.pick (.t p13) (.c (.bool true)) (.t p16)) [] 6] false
def c67_3 : CC := .reg [
  .mk (some p18) none (.build [(.int .i64 0), (.int .i64 0), (.str [])] []) [] 0,
  .mk none none (.store 3 (.t p2) (.t p18)) [] 1,
  .mk (some p3) none (.mv (.c (.int .i64 11))) [] 2] false
def c67_4 : CC := .reg [
  .mk (some p19) none (.load 3 true (.t p4)) [] 0,
  .mk none none (.store 3 (.t p2) (.t p19)) [] 1,
  .mk (some p3) none (.mv (.c (.int .i64 0))) [] 2] false
def F67 : CF := .mk 20 [p0] 5 (.seq c67_0 (.seq c67_1 (.seq (.seq c67_2 (.cond (.t p17) (.seq c67_3 .ret) .skip)) (.seq c67_4 .ret)))) [.cell p2 3 true, .t p3] 1
/- daybook/text.Named -/
def c68_0 : CC := .reg [
  .mk (some p1) none (.box 9 (.t p0)) [] 0,
  .mk (some p2) none (.mv (.c (.bool false))) [] 1] false
def c68_1 : CC := .reg [
  .mk (some p8) none (.load 1 false (.t p1)) [] 0,
  .mk (some p9) none (.call (.c (.fn 67 [])) [(.t p8)]) [] 1,
  .mk (some p7) none (.mv (.t p9)) [] 2,
  .mk (some p10) none (.ext 0 (.t p7)) [] 3,
  .mk (some p11) none (.ext 1 (.t p7)) [] 4,
  .mk (some p3) none (.alloc 34 [(.int .i64 0), (.int .i64 0), (.str [])]) [] 5,
  .mk none none (.store 3 (.t p3) (.t p10)) [] 6,
  .mk (some p4) none (.mv (.t p11)) [] 7] false
def c68_2 : CC := .reg [
  .mk (some p12) none (.load 1 false (.t p1)) [] 0,
  .mk (some p13) none (.len 0 (.t p12)) [] 1,
  .mk (some p14) none (.bin .lss .num (.t p13) (.c (.int .i64 1))) [] 2,
  .mk (some p15) none (.mv (.t p14)) [] 3,
  .mk (some p16) (some (p15, false)) (.load 1 false (.t p1)) [] 4,
  .mk (some p17) (some (p15, false)) (.len 0 (.t p16)) [] 5,
  .mk (some p18) (some (p15, false)) (.bin .gtr .num (.t p17) (.c (.int .i64 64))) [] 6,
  .mk (some p19) none (.pick (.t p15) (.c (.bool true)) (.t p18)) [] 7,
  .mk (some p20) none (.mv (.t p19)) [] 8,
  .mk (some p21) (some (p20, false)) (.mv (.t p4)) [] 9,
  .mk (some p22) (some (p20, false)) (.bin .eql .num (.t p21) (.c (.int .i64 0))) [] 10,
  .mk (some p23) none (.pick (.t p20) (.c (.bool true)) (.t p22)) [] 11] false
def c68_3 : CC := .reg [
  .mk (some p2) none (.mv (.c (.bool false))) [] 0] false
def c68_4 : CC := .reg [
  .mk (some p24) none (.mkfn 108 [(.t p1)]) [] 0,
  .mk (some p5) none (.mv (.t p24)) [] 1] false
def c68_5 : CC := .reg [
  .mk (some p25) none (.load 1 false (.t p1)) [] 0,
  .mk (some p26) none (.len 0 (.t p25)) [] 1,
  .mk (some p27) none (.mv (.c (.int .i64 0))) [] 2] false
def c68_6 : CC := .reg [
  .mk (some p28) none (.bin .lss .num (.t p27) (.t p26)) [] 0] false
def c68_7 : CC := .reg [
  .mk (some p29) none (.mv (.t p27)) [] 0,
  .mk (some p6) none (.mv (.t p29)) [] 1] false
def c68_8 : CC := .reg [
  .mk (some p30) none (.load 1 false (.t p1)) [] 0,
  .mk (some p31) none (.mv (.t p6)) [] 1,
  .mk (some p32) none (.index (.t p30) (.t p31)) [] 2,
  .mk (some p33) none (.bin .lss .num (.t p32) (.c (.int .u8 97))) [] 3,
  .mk (some p34) none (.mv (.t p33)) [] 4,
  .mk (some p35) (some (p34, false)) (.load 1 false (.t p1)) [] 5,
  .mk (some p36) (some (p34, false)) (.mv (.t p6)) [] 6,
  .mk (some p37) (some (p34, false)) (.index (.t p35) (.t p36)) [] 7,
  .mk (some p38) (some (p34, false)) (.bin .gtr .num (.t p37) (.c (.int .u8 122))) [] 8,
  .mk (some p39) none (.pick (.t p34) (.c (.bool true)) (.t p38)) [] 9,
  .mk (some p40) none (.mv (.t p39)) [] 10,
  .mk (some p41) (some (p40, true)) (.mv (.t p5)) [] 11,
  .mk (some p42) (some (p40, true)) (.mv (.t p6)) [] 12,
  .mk (some p43) (some (p40, true)) (.call (.t p41) [(.t p42)]) [] 13,
  .mk (some p44) (some (p40, true)) (.un .not (.t p43)) [] 14,
  .mk (some p45) none (.pick (.t p40) (.t p44) (.c (.bool false))) [] 15,
  .mk (some p46) none (.mv (.t p45)) [] 16,
  .mk (some p47) (some (p46, true)) (.load 1 false (.t p1)) [] 17,
  .mk (some p48) (some (p46, true)) (.mv (.t p6)) [] 18,
  .mk (some p49) (some (p46, true)) (.index (.t p47) (.t p48)) [] 19,
  .mk (some p50) (some (p46, true)) (.call (.c (.fn 103 [])) [(.c (.str [63, 95, 43, 45, 42, 47, 60, 62, 61, 33, 46, 37, 38])), (.t p49)]) [] 20,
  .mk (some p51) (some (p46, true)) (.bin .lss .num (.t p50) (.c (.int .i64 0))) [] 21,
  .mk (some p52) none (.pick (.t p46) (.t p51) (.c (.bool false))) [] 22] false
def c68_9 : CC := .reg [
  .mk (some p2) none (.mv (.c (.bool false))) [] 0] false
def c68_10 : CC := .reg [
  .mk (some p53) none (.bin .add .num (.t p27) (.c (.int .i64 1))) [] 0,
  .mk (some p27) none (.mv (.t p53)) [] 1] false
def c68_11 : CC := .loop (.seq c68_6 (.seq (.cond (.t p28) .skip (.exit 0)) (.seq (.blk 1 (.seq c68_7 (.seq c68_8 (.cond (.t p52) (.seq c68_9 .ret) .skip)))) c68_10)))
def c68_12 : CC := .reg [
  .mk (some p54) none (.mv (.t p5)) [] 0,
  .mk (some p55) none (.call (.t p54) [(.c (.int .i64 0))]) [] 1,
  .mk (some p56) none (.un .not (.t p55)) [] 2,
  .mk (some p57) none (.mv (.t p56)) [] 3,
  .mk (some p58) (some (p57, true)) (.load 1 false (.t p1)) [] 4,
  .mk (some p59) (some (p57, true)) (.index (.t p58) (.c (.int .i64 0))) [] 5,
  .mk (some p60) (some (p57, true)) (.call (.c (.fn 103 [])) [(.c (.str [43, 45, 33])), (.t p59)]) [] 6,
  .mk (some p61) (some (p57, true)) (.bin .lss .num (.t p60) (.c (.int .i64 0))) [] 7,
  .mk (some p62) (some (p57, true)) (.mv (.t p61)) [] 8,
  .mk (some p63) (some (p62, false)) (.mv (.t p5)) [] 9,
  .mk (some p64) (some (p62, false)) (.call (.t p63) [(.c (.int .i64 1))]) [] 10,
  .mk (some p65) (some (p62, false)) (.un .not (.t p64)) [] 11,
  .mk (some p66) (some (p57, true)) (.pick (.t p62) (.c (.bool true)) (.t p65)) [] 12,
  .mk (some p67) none (.pick (.t p57) (.t p66) (.c (.bool false))) [] 13,
  .mk (some p2) none (.mv (.t p67)) [] 14] false
def F68 : CF := .mk 68 [p0] 7 (.seq c68_0 (.seq (.seq c68_1 (.seq c68_2 (.cond (.t p23) (.seq c68_3 .ret) .skip))) (.seq c68_4 (.seq (.seq c68_5 (.blk 0 c68_11)) (.seq c68_12 .ret))))) [.t p2] 1
/- daybook/shape.item -/
def c72_0 : CC := .reg [
  .mk (some p2) none (.box 36 (.t p0)) [] 0,
  .mk (some p4) none (.alloc 44 [(.bool false), (.str []), (.bool false), (.int .i64 0), (.bool false), (.int .i64 0), (.int .i64 0), (.str []), (.bool false), .nils, (.int .i64 0)]) [] 1,
  .mk (some p5) none (.mv (.c (.bool false))) [] 2] false
def c72_1 : CC := .reg [
  .mk (some p9) none (.load 8 true (.t p2)) [] 0,
  .mk (some p10) none (.call (.c (.fn 112 [])) [(.t p9), (.c (.str [42]))]) [] 1] false
def c72_2 : CC := .reg [
  .mk (some p11) none (.build [(.bool false), (.str []), (.bool false), (.int .i64 0), (.bool false), (.int .i64 0), (.int .i64 0), (.str []), (.bool false), .nils, (.int .i64 0)] [(0, 1, (.c (.bool true)))]) [] 0,
  .mk none none (.store 11 (.t p4) (.t p11)) [] 1,
  .mk (some p5) none (.mv (.c (.bool true))) [] 2] false
def c72_3 : CC := .reg [
  .mk (some p12) none (.faddr 0 (.t p2)) [] 0,
  .mk (some p13) none (.load 1 false (.t p12)) [] 1,
  .mk (some p14) none (.bin .neq .num (.t p13) (.c (.int .i64 5))) [] 2] false
def c72_4 : CC := .reg [
  .mk (some p15) none (.load 8 true (.t p2)) [] 0,
  .mk (some p16) none (.call (.c (.fn 113 [])) [(.t p15)]) [] 1,
  .mk (some p17) none (.ext 0 (.t p16)) [] 2,
  .mk (some p18) none (.ext 1 (.t p16)) [] 3,
  .mk none none (.store 11 (.t p4) (.t p17)) [] 4,
  .mk (some p5) none (.mv (.t p18)) [] 5] false
def c72_5 : CC := .reg [
  .mk (some p19) none (.faddr 5 (.t p2)) [] 0,
  .mk (some p20) none (.load 1 false (.t p19)) [] 1,
  .mk (some p21) none (.len 1 (.t p20)) [] 2,
  .mk (some p22) none (.bin .neq .num (.t p21) (.c (.int .i64 2))) [] 3] false
def c72_6 : CC := .reg [
  .mk (some p23) none (.build [(.bool false), (.str []), (.bool false), (.int .i64 0), (.bool false), (.int .i64 0), (.int .i64 0), (.str []), (.bool false), .nils, (.int .i64 0)] []) [] 0,
  .mk none none (.store 11 (.t p4) (.t p23)) [] 1,
  .mk (some p5) none (.mv (.c (.bool false))) [] 2] false
def c72_7 : CC := .reg [
  .mk (some p25) none (.faddr 5 (.t p2)) [] 0,
  .mk (some p26) none (.load 1 false (.t p25)) [] 1,
  .mk (some p27) none (.iaddr 8 (.t p26) (.c (.int .i64 0))) [] 2,
  .mk (some p28) none (.load 8 true (.t p27)) [] 3,
  .mk (some p29) none (.call (.c (.fn 113 [])) [(.t p28)]) [] 4,
  .mk (some p24) none (.mv (.t p29)) [] 5,
  .mk (some p30) none (.ext 0 (.t p24)) [] 6,
  .mk (some p31) none (.ext 1 (.t p24)) [] 7,
  .mk (some p6) none (.alloc 44 [(.bool false), (.str []), (.bool false), (.int .i64 0), (.bool false), (.int .i64 0), (.int .i64 0), (.str []), (.bool false), .nils, (.int .i64 0)]) [] 8,
  .mk none none (.store 11 (.t p6) (.t p30)) [] 9,
  .mk (some p7) none (.mv (.t p31)) [] 10] false
def c72_8 : CC := .reg [
  .mk (some p32) none (.faddr 5 (.t p2)) [] 0,
  .mk (some p33) none (.load 1 false (.t p32)) [] 1,
  .mk (some p34) none (.iaddr 8 (.t p33) (.c (.int .i64 1))) [] 2,
  .mk (some p35) none (.load 8 true (.t p34)) [] 3,
  .mk (some p8) none (.alloc 36 [(.int .i64 0), (.int .i64 0), (.int .i64 0), (.str []), (.str []), .nils, (.int .i64 0), (.int .i64 0)]) [] 4,
  .mk none none (.store 8 (.t p8) (.t p35)) [] 5] false
def c72_9 : CC := .reg [
  .mk (some p43) none (.mv (.t p7)) [] 0,
  .mk (some p44) none (.un .not (.t p43)) [] 1,
  .mk (some p42) none (.mv (.t p44)) [] 2] false
def c72_10 : CC := .reg [
  .mk (some p45) none (.load 11 true (.t p6)) [] 0,
  .mk none none (.store 11 (.t p4) (.t p45)) [] 1,
  .mk (some p5) none (.mv (.c (.bool false))) [] 2] false
def c72_11 : CC := .reg [
  .mk (some p47) none (.faddr 0 (.t p8)) [] 0,
  .mk (some p48) none (.load 1 false (.t p47)) [] 1,
  .mk (some p49) none (.bin .eql .num (.t p48) (.c (.int .i64 4))) [] 2,
  .mk (some p46) none (.mv (.t p49)) [] 3] false
def c72_12 : CC := .reg [
  .mk (some p50) none (.faddr 8 (.t p6)) [] 0,
  .mk none none (.store 1 (.t p50) (.c (.bool true))) [] 1] false
def c72_13 : CC := .reg [
  .mk (some p52) none (.load 8 true (.t p8)) [] 0,
  .mk (some p53) none (.mv (.t p1)) [] 1,
  .mk (some p54) none (.bin .add .num (.t p53) (.c (.int .i64 1))) [] 2,
  .mk (some p55) none (.call (.c (.fn 41 [])) [(.t p52), (.t p54)]) [] 3,
  .mk (some p51) none (.mv (.t p55)) [] 4,
  .mk (some p56) none (.ext 0 (.t p51)) [] 5,
  .mk (some p57) none (.ext 1 (.t p51)) [] 6,
  .mk (some p58) none (.faddr 9 (.t p6)) [] 7,
  .mk none none (.store 1 (.t p58) (.t p56)) [] 8,
  .mk (some p7) none (.mv (.t p57)) [] 9] false
def c72_14 : CC := .reg [
  .mk (some p60) none (.load 8 true (.t p8)) [] 0,
  .mk (some p61) none (.call (.c (.fn 112 [])) [(.t p60), (.c (.str [46, 46, 46]))]) [] 1,
  .mk (some p59) none (.mv (.t p61)) [] 2] false
def c72_15 : CC := .reg [
  .mk (some p62) none (.faddr 10 (.t p6)) [] 0,
  .mk none none (.store 1 (.t p62) (.c (.int .i64 (-1)))) [] 1] false
def c72_16 : CC := .reg [
  .mk (some p37) none (.load 8 true (.t p8)) [] 0,
  .mk (some p38) none (.call (.c (.fn 114 [])) [(.t p37)]) [] 1,
  .mk (some p36) none (.mv (.t p38)) [] 2,
  .mk (some p39) none (.ext 0 (.t p36)) [] 3,
  .mk (some p40) none (.ext 1 (.t p36)) [] 4,
  .mk (some p41) none (.faddr 10 (.t p6)) [] 5,
  .mk none none (.store 1 (.t p41) (.t p39)) [] 6,
  .mk (some p7) none (.mv (.t p40)) [] 7] false
def c72_17 : CC := .reg [
  .mk (some p63) none (.load 11 true (.t p6)) [] 0,
  .mk (some p64) none (.mv (.t p7)) [] 1,
  .mk none none (.store 11 (.t p4) (.t p63)) [] 2,
  .mk (some p5) none (.mv (.t p64)) [] 3] false
def F72 : CF := .mk 65 [p0, p1] 7 (.seq c72_0 (.seq (.seq c72_1 (.cond (.t p10) (.seq c72_2 .ret) .skip)) (.seq (.seq c72_3 (.cond (.t p14) (.seq c72_4 .ret) .skip)) (.seq (.seq c72_5 (.cond (.t p22) (.seq c72_6 .ret) .skip)) (.seq c72_7 (.seq c72_8 (.seq (.blk 0 (.seq c72_9 (.cond (.t p42) (.seq c72_10 .ret) (.seq c72_11 (.cond (.t p46) (.seq c72_12 c72_13) (.seq c72_14 (.cond (.t p59) c72_15 c72_16))))))) (.seq c72_17 .ret)))))))) [.cell p4 11 true, .t p5] 1
/- daybook/shape.lists -/
def c73_0 : CC := .reg [
  .mk (some p2) none (.box 22 (.t p0)) [] 0,
  .mk (some p3) none (.box 3 (.t p1)) [] 1,
  .mk (some p4) none (.mv (.c .nilf)) [] 2] false
def c73_1 : CC := .reg [
  .mk (some p5) none (.mkfn 115 [(.t p3), (.t p2)]) [] 0,
  .mk (some p4) none (.mv (.t p5)) [] 1] false
def F73 : CF := .mk 6 [p0, p1] 3 (.seq c73_0 (.seq c73_1 .ret)) [.t p4] 0
/- daybook/shape.one -/
def c74_0 : CC := .reg [
  .mk (some p1) none (.box 44 (.t p0)) [] 0,
  .mk (some p2) none (.mv (.c (.bool false))) [] 1] false
def c74_1 : CC := .reg [
  .mk (some p6) none (.faddr 0 (.t p1)) [] 0,
  .mk (some p7) none (.load 1 false (.t p6)) [] 1] false
def c74_2 : CC := .reg [
  .mk (some p8) none (.faddr 1 (.t p1)) [] 0,
  .mk (some p9) none (.load 1 false (.t p8)) [] 1,
  .mk (some p10) none (.bin .eql .num (.t p9) (.c (.str []))) [] 2,
  .mk (some p11) none (.mv (.t p10)) [] 3,
  .mk (some p12) (some (p11, true)) (.faddr 2 (.t p1)) [] 4,
  .mk (some p13) (some (p11, true)) (.load 1 false (.t p12)) [] 5,
  .mk (some p14) (some (p11, true)) (.un .not (.t p13)) [] 6,
  .mk (some p15) none (.pick (.t p11) (.t p14) (.c (.bool false))) [] 7,
  .mk (some p16) none (.mv (.t p15)) [] 8,
  .mk (some p17) (some (p16, true)) (.faddr 3 (.t p1)) [] 9,
  .mk (some p18) (some (p16, true)) (.load 1 false (.t p17)) [] 10,
  .mk (some p19) (some (p16, true)) (.bin .eql .num (.t p18) (.c (.int .i64 0))) [] 11,
  .mk (some p20) none (.pick (.t p16) (.t p19) (.c (.bool false))) [] 12,
  .mk (some p21) none (.mv (.t p20)) [] 13,
  .mk (some p22) (some (p21, true)) (.faddr 4 (.t p1)) [] 14,
  .mk (some p23) (some (p21, true)) (.load 1 false (.t p22)) [] 15,
  .mk (some p24) (some (p21, true)) (.un .not (.t p23)) [] 16,
  .mk (some p25) none (.pick (.t p21) (.t p24) (.c (.bool false))) [] 17,
  .mk (some p26) none (.mv (.t p25)) [] 18,
  .mk (some p27) (some (p26, true)) (.faddr 5 (.t p1)) [] 19,
  .mk (some p28) (some (p26, true)) (.load 3 true (.t p27)) [] 20,
  .mk (some p29) (some (p26, true)) (.build [(.int .i64 0), (.int .i64 0), (.str [])] []) [] 21,
  .mk (some p30) (some (p26, true)) (.bin .eql (.cells [.i, .i, .s]) (.t p28) (.t p29)) [] 22,
  .mk (some p31) none (.pick (.t p26) (.t p30) (.c (.bool false))) [] 23,
  .mk (some p32) none (.mv (.t p31)) [] 24,
  .mk (some p33) (some (p32, true)) (.faddr 8 (.t p1)) [] 25,
  .mk (some p34) (some (p32, true)) (.load 1 false (.t p33)) [] 26,
  .mk (some p35) (some (p32, true)) (.un .not (.t p34)) [] 27,
  .mk (some p36) none (.pick (.t p32) (.t p35) (.c (.bool false))) [] 28,
  .mk (some p37) none (.mv (.t p36)) [] 29,
  .mk (some p38) (some (p37, true)) (.faddr 9 (.t p1)) [] 30,
  .mk (some p39) (some (p37, true)) (.load 1 false (.t p38)) [] 31,
  .mk (some p40) (some (p37, true)) (.len 1 (.t p39)) [] 32,
  .mk (some p41) (some (p37, true)) (.bin .eql .num (.t p40) (.c (.int .i64 0))) [] 33,
  .mk (some p42) none (.pick (.t p37) (.t p41) (.c (.bool false))) [] 34,
  .mk (some p43) none (.mv (.t p42)) [] 35,
  .mk (some p44) (some (p43, true)) (.faddr 10 (.t p1)) [] 36,
  .mk (some p45) (some (p43, true)) (.load 1 false (.t p44)) [] 37,
  .mk (some p46) (some (p43, true)) (.bin .eql .num (.t p45) (.c (.int .i64 0))) [] 38,
  .mk (some p47) none (.pick (.t p43) (.t p46) (.c (.bool false))) [] 39,
  .mk (some p2) none (.mv (.t p47)) [] 40] false
def c74_3 : CC := .reg [
  .mk (some p3) none (.mv (.c (.int .i64 0))) [] 0] false
def c74_4 : CC := .reg [
  .mk (some p48) none (.faddr 4 (.t p1)) [] 0,
  .mk (some p49) none (.load 1 false (.t p48)) [] 1,
  .mk (some p50) none (.faddr 8 (.t p1)) [] 2,
  .mk (some p51) none (.load 1 false (.t p50)) [] 3,
  .mk (some p52) none (.faddr 10 (.t p1)) [] 4,
  .mk (some p53) none (.load 1 false (.t p52)) [] 5,
  .mk (some p54) none (.bin .neq .num (.t p53) (.c (.int .i64 0))) [] 6,
  .mk (some p55) none (.bslice 4 1 [(.bool false)] 3 [(0, (.t p49)), (1, (.t p51)), (2, (.t p54))]) [] 7,
  .mk (some p56) none (.len 1 (.t p55)) [] 8,
  .mk (some p57) none (.mv (.c (.int .i64 0))) [] 9] false
def c74_5 : CC := .reg [
  .mk (some p58) none (.bin .lss .num (.t p57) (.t p56)) [] 0] false
def c74_6 : CC := .reg [
  .mk (some p59) none (.iaddr 1 (.t p55) (.t p57)) [] 0,
  .mk (some p60) none (.load 1 false (.t p59)) [] 1,
  .mk (some p5) none (.mv (.t p60)) [] 2] false
def c74_7 : CC := .reg [
  .mk (some p61) none (.mv (.t p5)) [] 0] false
def c74_8 : CC := .reg [
  .mk (some p62) none (.mv (.t p3)) [] 0,
  .mk (some p63) none (.bin .add .num (.t p62) (.c (.int .i64 1))) [] 1,
  .mk (some p3) none (.mv (.t p63)) [] 2] false
def c74_9 : CC := .reg [
  .mk (some p64) none (.bin .add .num (.t p57) (.c (.int .i64 1))) [] 0,
  .mk (some p57) none (.mv (.t p64)) [] 1] false
def c74_10 : CC := .loop (.seq c74_5 (.seq (.cond (.t p58) .skip (.exit 0)) (.seq (.blk 1 (.seq c74_6 (.seq c74_7 (.cond (.t p61) c74_8 .skip)))) c74_9)))
def c74_11 : CC := .reg [
  .mk (some p66) none (.mv (.t p3)) [] 0,
  .mk (some p67) none (.bin .gtr .num (.t p66) (.c (.int .i64 1))) [] 1,
  .mk (some p65) none (.mv (.t p67)) [] 2] false
def c74_12 : CC := .reg [
  .mk (some p68) none (.faddr 1 (.t p1)) [] 0,
  .mk (some p69) none (.load 1 false (.t p68)) [] 1,
  .mk (some p70) none (.call (.c (.fn 116 [])) [(.t p69)]) [] 2,
  .mk (some p71) none (.call (.c (.fn 97 [])) [(.t p70)]) [] 3,
  .mk (some p72) none (.bin .neq .num (.t p71) (.c (.int .i64 0))) [] 4,
  .mk (some p65) none (.mv (.t p72)) [] 5] false
def c74_13 : CC := .reg [
  .mk (some p73) none (.faddr 3 (.t p1)) [] 0,
  .mk (some p74) none (.load 1 false (.t p73)) [] 1,
  .mk (some p75) none (.bin .lss .num (.t p74) (.c (.int .i64 0))) [] 2,
  .mk (some p65) none (.mv (.t p75)) [] 3] false
def c74_14 : CC := .reg [
  .mk (some p76) none (.faddr 3 (.t p1)) [] 0,
  .mk (some p77) none (.load 1 false (.t p76)) [] 1,
  .mk (some p78) none (.bin .gtr .num (.t p77) (.c (.int .i64 1000))) [] 2,
  .mk (some p65) none (.mv (.t p78)) [] 3] false
def c74_15 : CC := .reg [
  .mk (some p79) none (.faddr 10 (.t p1)) [] 0,
  .mk (some p80) none (.load 1 false (.t p79)) [] 1,
  .mk (some p81) none (.bin .lss .num (.t p80) (.c (.int .i64 (-1)))) [] 2,
  .mk (some p65) none (.mv (.t p81)) [] 3] false
def c74_16 : CC := .reg [
  .mk (some p82) none (.faddr 10 (.t p1)) [] 0,
  .mk (some p83) none (.load 1 false (.t p82)) [] 1,
  .mk (some p84) none (.bin .gtr .num (.t p83) (.c (.int .i64 100))) [] 2,
  .mk (some p65) none (.mv (.t p84)) [] 3] false
def c74_17 : CC := .reg [
  .mk (some p85) none (.faddr 8 (.t p1)) [] 0,
  .mk (some p86) none (.load 1 false (.t p85)) [] 1,
  .mk (some p87) none (.un .not (.t p86)) [] 2,
  .mk (some p88) none (.mv (.t p87)) [] 3,
  .mk (some p89) (some (p88, true)) (.faddr 9 (.t p1)) [] 4,
  .mk (some p90) (some (p88, true)) (.load 1 false (.t p89)) [] 5,
  .mk (some p91) (some (p88, true)) (.len 1 (.t p90)) [] 6,
  .mk (some p92) (some (p88, true)) (.bin .gtr .num (.t p91) (.c (.int .i64 0))) [] 7,
  .mk (some p93) none (.pick (.t p88) (.t p92) (.c (.bool false))) [] 8,
  .mk (some p65) none (.mv (.t p93)) [] 9] false
def c74_18 : CC := .reg [
  .mk (some p2) none (.mv (.c (.bool false))) [] 0] false
def c74_19 : CC := .reg [
  .mk (some p95) none (.faddr 4 (.t p1)) [] 0,
  .mk (some p96) none (.load 1 false (.t p95)) [] 1,
  .mk (some p94) none (.mv (.t p96)) [] 2] false
def c74_20 : CC := .reg [
  .mk (some p97) none (.faddr 5 (.t p1)) [] 0,
  .mk (some p98) none (.load 3 true (.t p97)) [] 1,
  .mk (some p99) none (.call (.c (.fn 97 [])) [(.t p98)]) [] 2,
  .mk (some p100) none (.bin .eql .num (.t p99) (.c (.int .i64 0))) [] 3,
  .mk (some p2) none (.mv (.t p100)) [] 4] false
def c74_21 : CC := .reg [
  .mk (some p101) none (.faddr 5 (.t p1)) [] 0,
  .mk (some p102) none (.load 3 true (.t p101)) [] 1,
  .mk (some p103) none (.build [(.int .i64 0), (.int .i64 0), (.str [])] []) [] 2,
  .mk (some p104) none (.bin .eql (.cells [.i, .i, .s]) (.t p102) (.t p103)) [] 3,
  .mk (some p2) none (.mv (.t p104)) [] 4] false
def F74 : CF := .mk 105 [p0] 7 (.seq c74_0 (.seq (.seq c74_1 (.cond (.t p7) (.seq c74_2 .ret) .skip)) (.seq c74_3 (.seq (.seq c74_4 (.blk 0 c74_10)) (.seq (.blk 2 (.seq (.seq c74_11 (.cond (.t p65) .skip (.seq c74_12 (.cond (.t p65) .skip (.seq c74_13 (.cond (.t p65) .skip (.seq c74_14 (.cond (.t p65) .skip (.seq c74_15 (.cond (.t p65) .skip (.seq c74_16 (.cond (.t p65) .skip c74_17)))))))))))) (.cond (.t p65) (.seq c74_18 .ret) (.seq c74_19 (.cond (.t p94) (.seq c74_20 .ret) .skip))))) (.seq c74_21 .ret)))))) [.t p2] 1
/- slices.ContainsFunc[[]daybook/api.Item,daybook/api.Item] -/
def c75_0 : CC := .reg [
  .mk (some p4) none (.mv (.c (.bool false))) [] 0] false
def c75_1 : CC := .reg [
  .mk (some p5) none (.mv (.t p0)) [] 0,
  .mk (some p6) none (.mv (.t p1)) [] 1,
  .mk (some p7) none (.call (.c (.fn 117 [])) [(.t p5), (.t p6)]) [] 2,
  .mk (some p8) none (.bin .geq .num (.t p7) (.c (.int .i64 0))) [] 3,
  .mk (some p4) none (.mv (.t p8)) [] 4] false
def F75 : CF := .mk 9 [p0, p1] 4 (.seq c75_0 (.seq c75_1 .ret)) [.t p4] 2
/- daybook/shape.may$1 -/
def c76_0 : CC := .reg [
  .mk (some p2) none (.box 44 (.t p0)) [] 0,
  .mk (some p3) none (.mv (.c (.bool false))) [] 1] false
def c76_1 : CC := .reg [
  .mk (some p4) none (.load 11 true (.t p1)) [] 0,
  .mk (some p5) none (.load 11 true (.t p2)) [] 1,
  .mk (some p6) none (.call (.c (.fn 77 [])) [(.t p4), (.t p5)]) [] 2,
  .mk (some p3) none (.mv (.t p6)) [] 3] false
def F76 : CF := .mk 7 [p0, p1] 3 (.seq c76_0 (.seq c76_1 .ret)) [.t p3] 0
/- daybook/shape.alike -/
def c77_0 : CC := .reg [
  .mk (some p2) none (.box 44 (.t p0)) [] 0,
  .mk (some p3) none (.box 44 (.t p1)) [] 1,
  .mk (some p4) none (.mv (.c (.bool false))) [] 2] false
def c77_1 : CC := .reg [
  .mk (some p5) none (.faddr 0 (.t p2)) [] 0,
  .mk (some p6) none (.load 1 false (.t p5)) [] 1,
  .mk (some p7) none (.faddr 0 (.t p3)) [] 2,
  .mk (some p8) none (.load 1 false (.t p7)) [] 3,
  .mk (some p9) none (.bin .eql .bool (.t p6) (.t p8)) [] 4,
  .mk (some p10) none (.mv (.t p9)) [] 5,
  .mk (some p11) (some (p10, true)) (.faddr 1 (.t p2)) [] 6,
  .mk (some p12) (some (p10, true)) (.load 1 false (.t p11)) [] 7,
  .mk (some p13) (some (p10, true)) (.faddr 1 (.t p3)) [] 8,
  .mk (some p14) (some (p10, true)) (.load 1 false (.t p13)) [] 9,
  .mk (some p15) (some (p10, true)) (.bin .eql .num (.t p12) (.t p14)) [] 10,
  .mk (some p16) none (.pick (.t p10) (.t p15) (.c (.bool false))) [] 11,
  .mk (some p17) none (.mv (.t p16)) [] 12,
  .mk (some p18) (some (p17, true)) (.faddr 2 (.t p2)) [] 13,
  .mk (some p19) (some (p17, true)) (.load 1 false (.t p18)) [] 14,
  .mk (some p20) (some (p17, true)) (.faddr 2 (.t p3)) [] 15,
  .mk (some p21) (some (p17, true)) (.load 1 false (.t p20)) [] 16,
  .mk (some p22) (some (p17, true)) (.bin .eql .bool (.t p19) (.t p21)) [] 17,
  .mk (some p23) none (.pick (.t p17) (.t p22) (.c (.bool false))) [] 18,
  .mk (some p4) none (.mv (.t p23)) [] 19] false
def F77 : CF := .mk 24 [p0, p1] 5 (.seq c77_0 (.seq c77_1 .ret)) [.t p4] 1
/- slices.EqualFunc[[]daybook/api.Node,[]daybook/api.Node,daybook/api.Node,daybook/api.Node] -/
def c78_0 : CC := .reg [
  .mk (some p6) none (.mv (.c (.bool false))) [] 0] false
def c78_1 : CC := .reg [
  .mk (some p10) none (.mv (.t p0)) [] 0,
  .mk (some p11) none (.len 1 (.t p10)) [] 1,
  .mk (some p12) none (.mv (.t p1)) [] 2,
  .mk (some p13) none (.len 1 (.t p12)) [] 3,
  .mk (some p14) none (.bin .neq .num (.t p11) (.t p13)) [] 4] false
def c78_2 : CC := .reg [
  .mk (some p6) none (.mv (.c (.bool false))) [] 0] false
def c78_3 : CC := .reg [
  .mk (some p15) none (.mv (.t p0)) [] 0,
  .mk (some p16) none (.len 1 (.t p15)) [] 1,
  .mk (some p17) none (.mv (.c (.int .i64 0))) [] 2] false
def c78_4 : CC := .reg [
  .mk (some p18) none (.bin .lss .num (.t p17) (.t p16)) [] 0] false
def c78_5 : CC := .reg [
  .mk (some p19) none (.mv (.t p17)) [] 0,
  .mk (some p20) none (.iaddr 8 (.t p15) (.t p17)) [] 1,
  .mk (some p21) none (.load 8 true (.t p20)) [] 2,
  .mk (some p8) none (.alloc 36 [(.int .i64 0), (.int .i64 0), (.int .i64 0), (.str []), (.str []), .nils, (.int .i64 0), (.int .i64 0)]) [] 3,
  .mk (some p7) none (.mv (.t p19)) [] 4,
  .mk none none (.store 8 (.t p8) (.t p21)) [] 5] false
def c78_6 : CC := .reg [
  .mk (some p22) none (.mv (.t p1)) [] 0,
  .mk (some p23) none (.mv (.t p7)) [] 1,
  .mk (some p24) none (.iaddr 8 (.t p22) (.t p23)) [] 2,
  .mk (some p25) none (.load 8 true (.t p24)) [] 3,
  .mk (some p9) none (.alloc 36 [(.int .i64 0), (.int .i64 0), (.int .i64 0), (.str []), (.str []), .nils, (.int .i64 0), (.int .i64 0)]) [] 4,
  .mk none none (.store 8 (.t p9) (.t p25)) [] 5] false
def c78_7 : CC := .reg [
  .mk (some p26) none (.mv (.t p2)) [] 0,
  .mk (some p27) none (.load 8 true (.t p8)) [] 1,
  .mk (some p28) none (.load 8 true (.t p9)) [] 2,
  .mk (some p29) none (.call (.t p26) [(.t p27), (.t p28)]) [] 3,
  .mk (some p30) none (.un .not (.t p29)) [] 4] false
def c78_8 : CC := .reg [
  .mk (some p6) none (.mv (.c (.bool false))) [] 0] false
def c78_9 : CC := .reg [
  .mk (some p31) none (.bin .add .num (.t p17) (.c (.int .i64 1))) [] 0,
  .mk (some p17) none (.mv (.t p31)) [] 1] false
def c78_10 : CC := .loop (.seq c78_4 (.seq (.cond (.t p18) .skip (.exit 0)) (.seq (.blk 1 (.seq c78_5 (.seq c78_6 (.seq c78_7 (.cond (.t p30) (.seq c78_8 .ret) .skip))))) c78_9)))
def c78_11 : CC := .reg [
  .mk (some p6) none (.mv (.c (.bool true))) [] 0] false
def F78 : CF := .mk 32 [p0, p1, p2] 6 (.seq c78_0 (.seq (.seq c78_1 (.cond (.t p14) (.seq c78_2 .ret) .skip)) (.seq (.seq c78_3 (.blk 0 c78_10)) (.seq c78_11 .ret)))) [.t p6] 2
/- daybook/shape.node -/
def c79_0 : CC := .reg [
  .mk (some p1) none (.box 44 (.t p0)) [] 0,
  .mk (some p2) none (.alloc 36 [(.int .i64 0), (.int .i64 0), (.int .i64 0), (.str []), (.str []), .nils, (.int .i64 0), (.int .i64 0)]) [] 1] false
def c79_1 : CC := .reg [
  .mk (some p3) none (.alloc 36 [(.int .i64 0), (.int .i64 0), (.int .i64 0), (.str []), (.str []), .nils, (.int .i64 0), (.int .i64 0)]) [] 0] false
def c79_2 : CC := .reg [
  .mk (some p7) none (.faddr 0 (.t p1)) [] 0,
  .mk (some p8) none (.load 1 false (.t p7)) [] 1,
  .mk (some p6) none (.mv (.t p8)) [] 2] false
def c79_3 : CC := .reg [
  .mk (some p9) none (.call (.c (.fn 118 [])) [(.c (.str [42]))]) [] 0,
  .mk none none (.store 8 (.t p2) (.t p9)) [] 1] false
def c79_4 : CC := .reg [
  .mk (some p11) none (.faddr 8 (.t p1)) [] 0,
  .mk (some p12) none (.load 1 false (.t p11)) [] 1,
  .mk (some p10) none (.mv (.t p12)) [] 2] false
def c79_5 : CC := .reg [
  .mk (some p13) none (.faddr 9 (.t p1)) [] 0,
  .mk (some p14) none (.load 1 false (.t p13)) [] 1,
  .mk (some p15) none (.call (.c (.fn 44 [])) [(.t p14)]) [] 2,
  .mk none none (.store 8 (.t p3) (.t p15)) [] 3] false
def c79_6 : CC := .reg [
  .mk (some p17) none (.faddr 10 (.t p1)) [] 0,
  .mk (some p18) none (.load 1 false (.t p17)) [] 1,
  .mk (some p19) none (.bin .lss .num (.t p18) (.c (.int .i64 0))) [] 2,
  .mk (some p16) none (.mv (.t p19)) [] 3] false
def c79_7 : CC := .reg [
  .mk (some p20) none (.call (.c (.fn 118 [])) [(.c (.str [46, 46, 46]))]) [] 0,
  .mk none none (.store 8 (.t p3) (.t p20)) [] 1] false
def c79_8 : CC := .reg [
  .mk (some p22) none (.faddr 10 (.t p1)) [] 0,
  .mk (some p23) none (.load 1 false (.t p22)) [] 1,
  .mk (some p24) none (.bin .gtr .num (.t p23) (.c (.int .i64 0))) [] 2,
  .mk (some p21) none (.mv (.t p24)) [] 3] false
def c79_9 : CC := .reg [
  .mk (some p25) none (.faddr 10 (.t p1)) [] 0,
  .mk (some p26) none (.load 1 false (.t p25)) [] 1,
  .mk (some p27) none (.call (.c (.fn 119 [])) [(.t p26)]) [] 2,
  .mk none none (.store 8 (.t p3) (.t p27)) [] 3] false
def c79_10 : CC := .reg [
  .mk (some p4) none (.load 11 true (.t p1)) [] 0,
  .mk (some p5) none (.call (.c (.fn 120 [])) [(.t p4)]) [] 1,
  .mk none none (.store 8 (.t p2) (.t p5)) [] 2] false
def c79_11 : CC := .reg [
  .mk (some p28) none (.load 11 true (.t p1)) [] 0,
  .mk (some p30) none (.load 8 true (.t p3)) [2] 2,
  .mk (some p29) none (.call (.c (.fn 120 [])) [(.t p28)]) [] 1,
  .mk (some p31) none (.bslice 36 8 [(.int .i64 0), (.int .i64 0), (.int .i64 0), (.str []), (.str []), .nils, (.int .i64 0), (.int .i64 0)] 2 [(0, (.t p29)), (1, (.t p30))]) [] 3,
  .mk (some p32) none (.build [(.int .i64 0), (.int .i64 0), (.int .i64 0), (.str []), (.str []), .nils, (.int .i64 0), (.int .i64 0)] [(0, 1, (.c (.int .i64 5))), (5, 1, (.t p31))]) [] 4,
  .mk none none (.store 8 (.t p2) (.t p32)) [] 5] true
def F79 : CF := .mk 33 [p0] 6 (.seq c79_0 (.seq c79_1 (.seq (.blk 0 (.seq c79_2 (.cond (.t p6) (.seq c79_3 .ret) (.seq c79_4 (.cond (.t p10) c79_5 (.seq c79_6 (.cond (.t p16) c79_7 (.seq c79_8 (.cond (.t p21) c79_9 (.seq c79_10 .ret)))))))))) (.seq c79_11 .ret)))) [.cell p2 8 true] 1
/- (*daybook/text.writer).list -/
def c85_0 : CC := .reg [
  .mk (some p8) none (.mv (.t p1)) [] 0,
  .mk (some p9) none (.len 1 (.t p8)) [] 1,
  .mk (some p10) none (.mv (.c (.int .i64 0))) [] 2] false
def c85_1 : CC := .reg [
  .mk (some p11) none (.bin .lss .num (.t p10) (.t p9)) [] 0] false
def c85_2 : CC := .reg [
  .mk (some p12) none (.mv (.t p10)) [] 0,
  .mk (some p13) none (.iaddr 8 (.t p8) (.t p10)) [] 1,
  .mk (some p14) none (.load 8 true (.t p13)) [] 2,
  .mk (some p7) none (.alloc 36 [(.int .i64 0), (.int .i64 0), (.int .i64 0), (.str []), (.str []), .nils, (.int .i64 0), (.int .i64 0)]) [] 3,
  .mk (some p6) none (.mv (.t p12)) [] 4,
  .mk none none (.store 8 (.t p7) (.t p14)) [] 5] false
def c85_3 : CC := .reg [
  .mk (some p15) none (.mv (.t p6)) [] 0,
  .mk (some p16) none (.bin .gtr .num (.t p15) (.c (.int .i64 0))) [] 1] false
def c85_4 : CC := .reg [
  .mk (some p17) none (.mv (.t p0)) [] 0,
  .mk (some p18) none (.nilck (.t p17)) [] 1,
  .mk (some p19) none (.faddr 0 (.t p18)) [] 2,
  .mk (some p20) none (.mv (.t p2)) [] 3,
  .mk (some p21) none (.call (.c (.fn 123 [])) [(.t p19), (.t p20)]) [] 4] false
def c85_5 : CC := .reg [
  .mk (some p22) none (.mv (.t p0)) [] 0,
  .mk (some p23) none (.load 8 true (.t p7)) [] 1,
  .mk (some p24) none (.call (.c (.fn 124 [])) [(.t p22), (.t p23)]) [] 2] false
def c85_6 : CC := .reg [
  .mk (some p25) none (.mv (.t p0)) [] 0,
  .mk (some p26) none (.nilck (.t p25)) [] 1,
  .mk (some p27) none (.faddr 4 (.t p26)) [] 2,
  .mk (some p28) none (.load 1 false (.t p27)) [] 3] false
def c85_7 : CC := .reg [
  .mk (some p29) none (.bin .add .num (.t p10) (.c (.int .i64 1))) [] 0,
  .mk (some p10) none (.mv (.t p29)) [] 1] false
def c85_8 : CC := .loop (.seq c85_1 (.seq (.cond (.t p11) .skip (.exit 0)) (.seq (.blk 1 (.seq c85_2 (.seq (.seq c85_3 (.cond (.t p16) c85_4 .skip)) (.seq c85_5 (.seq c85_6 (.cond (.t p28) .ret .skip)))))) c85_7)))
def F85 : CF := .mk 30 [p0, p1, p2] 5 (.seq c85_0 (.blk 0 c85_8)) [] 0
/- daybook/daybookref04.May -/
def c87_0 : CC := .reg [
  .mk (some p1) none (.box 154 (.t p0)) [] 0,
  .mk (some p2) none (.mv (.c (.bool false))) [] 1] false
def c87_1 : CC := .reg [
  .mk (some p3) none (.faddr 0 (.t p1)) [] 0,
  .mk (some p4) none (.load 1 false (.t p3)) [] 1,
  .mk (some p5) none (.call (.c (.fn 125 [])) [(.t p4)]) [] 2,
  .mk (some p6) none (.mv (.t p5)) [] 3,
  .mk (some p7) (some (p6, true)) (.faddr 1 (.t p1)) [] 4,
  .mk (some p8) (some (p6, true)) (.load 1 false (.t p7)) [] 5,
  .mk (some p9) (some (p6, true)) (.call (.c (.fn 125 [])) [(.t p8)]) [] 6,
  .mk (some p10) none (.pick (.t p6) (.t p9) (.c (.bool false))) [] 7,
  .mk (some p11) none (.mv (.t p10)) [] 8,
  .mk (some p12) (some (p11, true)) (.faddr 2 (.t p1)) [] 9,
  .mk (some p13) (some (p11, true)) (.load 3 true (.t p12)) [] 10,
  .mk (some p14) (some (p11, true)) (.call (.c (.fn 122 [])) [(.t p13)]) [] 11,
  .mk (some p15) none (.pick (.t p11) (.t p14) (.c (.bool false))) [] 12,
  .mk (some p16) none (.mv (.t p15)) [] 13,
  .mk (some p17) (some (p16, true)) (.faddr 5 (.t p1)) [] 14,
  .mk (some p18) (some (p16, true)) (.load 1 false (.t p17)) [] 15,
  .mk (some p19) (some (p16, true)) (.bin .geq .num (.t p18) (.c (.int .i64 1))) [] 16,
  .mk (some p20) none (.pick (.t p16) (.t p19) (.c (.bool false))) [] 17,
  .mk (some p21) none (.mv (.t p20)) [] 18,
  .mk (some p22) (some (p21, true)) (.faddr 5 (.t p1)) [] 19,
  .mk (some p23) (some (p21, true)) (.load 1 false (.t p22)) [] 20,
  .mk (some p24) (some (p21, true)) (.bin .leq .num (.t p23) (.c (.int .i64 1099511627776))) [] 21,
  .mk (some p25) none (.pick (.t p21) (.t p24) (.c (.bool false))) [] 22,
  .mk (some p26) none (.mv (.t p25)) [] 23,
  .mk (some p27) (some (p26, true)) (.faddr 7 (.t p1)) [] 24,
  .mk (some p28) (some (p26, true)) (.load 1 false (.t p27)) [] 25,
  .mk (some p29) (some (p26, true)) (.faddr 8 (.t p1)) [] 26,
  .mk (some p30) (some (p26, true)) (.load 1 false (.t p29)) [] 27,
  .mk (some p31) (some (p26, true)) (.bin .lss .num (.t p28) (.t p30)) [] 28,
  .mk (some p32) none (.pick (.t p26) (.t p31) (.c (.bool false))) [] 29,
  .mk (some p2) none (.mv (.t p32)) [] 30] false
def F87 : CF := .mk 33 [p0] 6 (.seq c87_0 (.seq c87_1 .ret)) [.t p2] 1
/- daybook/daybookref03.Set -/
def c88_0 : CC := .reg [
  .mk (some p2) none (.mv (.c (.bool false))) [] 0] false
def c88_1 : CC := .reg [
  .mk (some p3) none (.mv (.c (.int .i64 0))) [] 0] false
def c88_2 : CC := .reg [
  .mk (some p4) none (.mv (.t p3)) [] 0,
  .mk (some p5) none (.mv (.t p0)) [] 1,
  .mk (some p6) none (.len 1 (.t p5)) [] 2,
  .mk (some p7) none (.bin .lss .num (.t p4) (.t p6)) [] 3] false
def c88_3 : CC := .reg [
  .mk (some p10) none (.mv (.t p0)) [] 0,
  .mk (some p11) none (.mv (.t p3)) [] 1,
  .mk (some p12) none (.iaddr 2 (.t p10) (.t p11)) [] 2,
  .mk (some p13) none (.faddr 0 (.t p12)) [] 3,
  .mk (some p14) none (.load 1 false (.t p13)) [] 4,
  .mk (some p15) none (.mv (.t p0)) [] 5,
  .mk (some p16) none (.mv (.t p3)) [] 6,
  .mk (some p17) none (.iaddr 2 (.t p15) (.t p16)) [] 7,
  .mk (some p18) none (.faddr 1 (.t p17)) [] 8,
  .mk (some p19) none (.load 1 false (.t p18)) [] 9,
  .mk (some p20) none (.bin .geq .num (.t p14) (.t p19)) [] 10,
  .mk (some p21) none (.mv (.t p20)) [] 11,
  .mk (some p22) (some (p21, false)) (.mv (.t p3)) [] 12,
  .mk (some p23) (some (p21, false)) (.bin .gtr .num (.t p22) (.c (.int .i64 0))) [] 13,
  .mk (some p24) (some (p21, false)) (.mv (.t p23)) [] 14,
  .mk (some p25) (some (p24, true)) (.mv (.t p0)) [] 15,
  .mk (some p26) (some (p24, true)) (.mv (.t p3)) [] 16,
  .mk (some p27) (some (p24, true)) (.bin .sub .num (.t p26) (.c (.int .i64 1))) [] 17,
  .mk (some p28) (some (p24, true)) (.iaddr 2 (.t p25) (.t p27)) [] 18,
  .mk (some p29) (some (p24, true)) (.faddr 1 (.t p28)) [] 19,
  .mk (some p30) (some (p24, true)) (.load 1 false (.t p29)) [] 20,
  .mk (some p31) (some (p24, true)) (.mv (.t p0)) [] 21,
  .mk (some p32) (some (p24, true)) (.mv (.t p3)) [] 22,
  .mk (some p33) (some (p24, true)) (.iaddr 2 (.t p31) (.t p32)) [] 23,
  .mk (some p34) (some (p24, true)) (.faddr 0 (.t p33)) [] 24,
  .mk (some p35) (some (p24, true)) (.load 1 false (.t p34)) [] 25,
  .mk (some p36) (some (p24, true)) (.bin .geq .num (.t p30) (.t p35)) [] 26,
  .mk (some p37) (some (p21, false)) (.pick (.t p24) (.t p36) (.c (.bool false))) [] 27,
  .mk (some p38) none (.pick (.t p21) (.c (.bool true)) (.t p37)) [] 28] true
def c88_4 : CC := .reg [
  .mk (some p2) none (.mv (.c (.bool false))) [] 0] false
def c88_5 : CC := .reg [
  .mk (some p8) none (.mv (.t p3)) [] 0,
  .mk (some p9) none (.bin .add .num (.t p8) (.c (.int .i64 1))) [] 1,
  .mk (some p3) none (.mv (.t p9)) [] 2] false
def c88_6 : CC := .loop (.seq (.seq c88_2 (.cond (.t p7) .skip (.exit 0))) (.seq (.blk 1 (.seq c88_3 (.cond (.t p38) (.seq c88_4 .ret) .skip))) c88_5))
def c88_7 : CC := .reg [
  .mk (some p2) none (.mv (.c (.bool true))) [] 0] false
def F88 : CF := .mk 39 [p0] 6 (.seq c88_0 (.seq (.seq c88_1 (.blk 0 c88_6)) (.seq c88_7 .ret))) [.t p2] 1
/- daybook/daybookref06.Compare -/
def c89_0 : CC := .reg [
  .mk (some p2) none (.box 71 (.t p0)) [] 0,
  .mk (some p3) none (.box 71 (.t p1)) [] 1,
  .mk (some p4) none (.mv (.c (.int .i64 0))) [] 2] false
def c89_1 : CC := .reg [
  .mk (some p5) none (.faddr 0 (.t p2)) [] 0,
  .mk (some p6) none (.load 1 false (.t p5)) [] 1,
  .mk (some p7) none (.faddr 0 (.t p3)) [] 2,
  .mk (some p8) none (.load 1 false (.t p7)) [] 3,
  .mk (some p9) none (.bin .lss .num (.t p6) (.t p8)) [] 4,
  .mk (some p10) none (.mv (.t p9)) [] 5,
  .mk (some p11) (some (p10, false)) (.faddr 0 (.t p2)) [] 6,
  .mk (some p12) (some (p10, false)) (.load 1 false (.t p11)) [] 7,
  .mk (some p13) (some (p10, false)) (.faddr 0 (.t p3)) [] 8,
  .mk (some p14) (some (p10, false)) (.load 1 false (.t p13)) [] 9,
  .mk (some p15) (some (p10, false)) (.bin .eql .num (.t p12) (.t p14)) [] 10,
  .mk (some p16) (some (p10, false)) (.mv (.t p15)) [] 11,
  .mk (some p17) (some (p16, true)) (.faddr 1 (.t p2)) [] 12,
  .mk (some p18) (some (p16, true)) (.load 1 false (.t p17)) [] 13,
  .mk (some p19) (some (p16, true)) (.faddr 1 (.t p3)) [] 14,
  .mk (some p20) (some (p16, true)) (.load 1 false (.t p19)) [] 15,
  .mk (some p21) (some (p16, true)) (.bin .lss .num (.t p18) (.t p20)) [] 16,
  .mk (some p22) (some (p10, false)) (.pick (.t p16) (.t p21) (.c (.bool false))) [] 17,
  .mk (some p23) none (.pick (.t p10) (.c (.bool true)) (.t p22)) [] 18] false
def c89_2 : CC := .reg [
  .mk (some p4) none (.mv (.c (.int .i64 (-1)))) [] 0] false
def c89_3 : CC := .reg [
  .mk (some p24) none (.faddr 0 (.t p2)) [] 0,
  .mk (some p25) none (.load 1 false (.t p24)) [] 1,
  .mk (some p26) none (.faddr 0 (.t p3)) [] 2,
  .mk (some p27) none (.load 1 false (.t p26)) [] 3,
  .mk (some p28) none (.bin .gtr .num (.t p25) (.t p27)) [] 4,
  .mk (some p29) none (.mv (.t p28)) [] 5,
  .mk (some p30) (some (p29, false)) (.faddr 1 (.t p2)) [] 6,
  .mk (some p31) (some (p29, false)) (.load 1 false (.t p30)) [] 7,
  .mk (some p32) (some (p29, false)) (.faddr 1 (.t p3)) [] 8,
  .mk (some p33) (some (p29, false)) (.load 1 false (.t p32)) [] 9,
  .mk (some p34) (some (p29, false)) (.bin .gtr .num (.t p31) (.t p33)) [] 10,
  .mk (some p35) none (.pick (.t p29) (.c (.bool true)) (.t p34)) [] 11] false
def c89_4 : CC := .reg [
  .mk (some p4) none (.mv (.c (.int .i64 1))) [] 0] false
def c89_5 : CC := .reg [
  .mk (some p36) none (.faddr 2 (.t p2)) [] 0,
  .mk (some p37) none (.load 3 true (.t p36)) [] 1,
  .mk (some p38) none (.faddr 2 (.t p3)) [] 2,
  .mk (some p39) none (.load 3 true (.t p38)) [] 3,
  .mk (some p40) none (.call (.c (.fn 126 [])) [(.t p37), (.t p39)]) [] 4,
  .mk (some p4) none (.mv (.t p40)) [] 5] false
def F89 : CF := .mk 41 [p0, p1] 6 (.seq c89_0 (.seq (.seq c89_1 (.cond (.t p23) (.seq c89_2 .ret) .skip)) (.seq (.seq c89_3 (.cond (.t p35) (.seq c89_4 .ret) .skip)) (.seq c89_5 .ret)))) [.t p4] 1
/- daybook/daybookref07.values -/
def c90_0 : CC := .reg [
  .mk (some p6) none (.mv (.c .nils)) [] 0] false
def c90_1 : CC := .reg [
  .mk (some p7) none (.mv (.c .nils)) [] 0] false
def c90_2 : CC := .reg [
  .mk (some p8) none (.mv (.c (.int .i64 0))) [] 0] false
def c90_3 : CC := .reg [
  .mk (some p9) none (.mv (.t p8)) [] 0,
  .mk (some p10) none (.mv (.t p0)) [] 1,
  .mk (some p11) none (.len 1 (.t p10)) [] 2,
  .mk (some p12) none (.bin .lss .num (.t p9) (.t p11)) [] 3] false
def c90_4 : CC := .reg [
  .mk (some p15) none (.mv (.t p0)) [] 0,
  .mk (some p16) none (.mv (.t p8)) [] 1,
  .mk (some p17) none (.iaddr 6 (.t p15) (.t p16)) [] 2,
  .mk (some p18) none (.faddr 0 (.t p17)) [] 3,
  .mk (some p19) none (.load 1 false (.t p18)) [] 4,
  .mk (some p20) none (.mv (.t p1)) [] 5,
  .mk (some p21) none (.bin .eql .num (.t p19) (.t p20)) [] 6,
  .mk (some p22) none (.mv (.t p21)) [] 7,
  .mk (some p23) (some (p22, true)) (.mv (.t p0)) [] 8,
  .mk (some p24) (some (p22, true)) (.mv (.t p8)) [] 9,
  .mk (some p25) (some (p22, true)) (.iaddr 6 (.t p23) (.t p24)) [] 10,
  .mk (some p26) (some (p22, true)) (.faddr 1 (.t p25)) [] 11,
  .mk (some p27) (some (p22, true)) (.load 1 false (.t p26)) [] 12,
  .mk (some p28) (some (p22, true)) (.mv (.t p2)) [] 13,
  .mk (some p29) (some (p22, true)) (.bin .eql .num (.t p27) (.t p28)) [] 14,
  .mk (some p30) none (.pick (.t p22) (.t p29) (.c (.bool false))) [] 15] false
def c90_5 : CC := .reg [
  .mk (some p31) none (.mv (.t p7)) [] 0,
  .mk (some p32) none (.mv (.t p0)) [] 1,
  .mk (some p33) none (.mv (.t p8)) [] 2,
  .mk (some p34) none (.iaddr 6 (.t p32) (.t p33)) [] 3,
  .mk (some p35) none (.faddr 2 (.t p34)) [] 4,
  .mk (some p36) none (.load 3 true (.t p35)) [] 5,
  .mk (some p37) none (.bslice 34 3 [(.int .i64 0), (.int .i64 0), (.str [])] 1 [(0, (.t p36))]) [] 6,
  .mk (some p38) none (.append 34 3 (.t p31) (.t p37)) [] 7,
  .mk (some p7) none (.mv (.t p38)) [] 8] false
def c90_6 : CC := .reg [
  .mk (some p13) none (.mv (.t p8)) [] 0,
  .mk (some p14) none (.bin .add .num (.t p13) (.c (.int .i64 1))) [] 1,
  .mk (some p8) none (.mv (.t p14)) [] 2] false
def c90_7 : CC := .loop (.seq (.seq c90_3 (.cond (.t p12) .skip (.exit 0))) (.seq (.blk 1 (.seq c90_4 (.cond (.t p30) c90_5 .skip))) c90_6))
def c90_8 : CC := .reg [
  .mk (some p39) none (.mv (.t p7)) [] 0,
  .mk (some p6) none (.mv (.t p39)) [] 1] false
def F90 : CF := .mk 40 [p0, p1, p2] 6 (.seq c90_0 (.seq c90_1 (.seq (.seq c90_2 (.blk 0 c90_7)) (.seq c90_8 .ret)))) [.t p6] 1
/- daybook/daybookref07.yes -/
def c91_0 : CC := .reg [
  .mk (some p2) none (.mv (.c (.bool false))) [] 0] false
def c91_1 : CC := .reg [
  .mk (some p3) none (.mv (.c (.int .i64 0))) [] 0] false
def c91_2 : CC := .reg [
  .mk (some p4) none (.mv (.t p3)) [] 0,
  .mk (some p5) none (.mv (.t p0)) [] 1,
  .mk (some p6) none (.len 1 (.t p5)) [] 2,
  .mk (some p7) none (.bin .lss .num (.t p4) (.t p6)) [] 3] false
def c91_3 : CC := .reg [
  .mk (some p10) none (.mv (.t p0)) [] 0,
  .mk (some p11) none (.mv (.t p3)) [] 1,
  .mk (some p12) none (.iaddr 3 (.t p10) (.t p11)) [] 2,
  .mk (some p13) none (.faddr 0 (.t p12)) [] 3,
  .mk (some p14) none (.load 1 false (.t p13)) [] 4,
  .mk (some p15) none (.bin .eql .num (.t p14) (.c (.int .i64 2))) [] 5,
  .mk (some p16) none (.mv (.t p15)) [] 6,
  .mk (some p17) (some (p16, true)) (.mv (.t p0)) [] 7,
  .mk (some p18) (some (p16, true)) (.mv (.t p3)) [] 8,
  .mk (some p19) (some (p16, true)) (.iaddr 3 (.t p17) (.t p18)) [] 9,
  .mk (some p20) (some (p16, true)) (.faddr 1 (.t p19)) [] 10,
  .mk (some p21) (some (p16, true)) (.load 1 false (.t p20)) [] 11,
  .mk (some p22) (some (p16, true)) (.bin .eql .num (.t p21) (.c (.int .i64 1))) [] 12,
  .mk (some p23) none (.pick (.t p16) (.t p22) (.c (.bool false))) [] 13] false
def c91_4 : CC := .reg [
  .mk (some p2) none (.mv (.c (.bool true))) [] 0] false
def c91_5 : CC := .reg [
  .mk (some p8) none (.mv (.t p3)) [] 0,
  .mk (some p9) none (.bin .add .num (.t p8) (.c (.int .i64 1))) [] 1,
  .mk (some p3) none (.mv (.t p9)) [] 2] false
def c91_6 : CC := .loop (.seq (.seq c91_2 (.cond (.t p7) .skip (.exit 0))) (.seq (.blk 1 (.seq c91_3 (.cond (.t p23) (.seq c91_4 .ret) .skip))) c91_5))
def c91_7 : CC := .reg [
  .mk (some p2) none (.mv (.c (.bool false))) [] 0] false
def F91 : CF := .mk 24 [p0] 5 (.seq c91_0 (.seq (.seq c91_1 (.blk 0 c91_6)) (.seq c91_7 .ret))) [.t p2] 1
/- daybook/facts.all -/
def c92_0 : CC := .reg [
  .mk (some p2) none (.mv (.c (.bool false))) [] 0] false
def c92_1 : CC := .reg [
  .mk (some p5) none (.mv (.t p0)) [] 0,
  .mk (some p6) none (.len 1 (.t p5)) [] 1,
  .mk (some p7) none (.mv (.c (.int .i64 0))) [] 2] false
def c92_2 : CC := .reg [
  .mk (some p8) none (.bin .lss .num (.t p7) (.t p6)) [] 0] false
def c92_3 : CC := .reg [
  .mk (some p9) none (.mv (.t p7)) [] 0,
  .mk (some p10) none (.iaddr 6 (.t p5) (.t p7)) [] 1,
  .mk (some p11) none (.load 6 true (.t p10)) [] 2,
  .mk (some p4) none (.alloc 71 [(.int .i64 0), (.int .i64 0), (.int .i64 0), (.int .i64 0), (.str []), .nils]) [] 3,
  .mk (some p3) none (.mv (.t p9)) [] 4,
  .mk none none (.store 6 (.t p4) (.t p11)) [] 5] false
def c92_4 : CC := .reg [
  .mk (some p12) none (.load 6 true (.t p4)) [] 0,
  .mk (some p13) none (.call (.c (.fn 127 [])) [(.t p12)]) [] 1,
  .mk (some p14) none (.un .not (.t p13)) [] 2,
  .mk (some p15) none (.mv (.t p14)) [] 3,
  .mk (some p16) (some (p15, false)) (.mv (.t p3)) [] 4,
  .mk (some p17) (some (p15, false)) (.bin .gtr .num (.t p16) (.c (.int .i64 0))) [] 5,
  .mk (some p18) (some (p15, false)) (.mv (.t p17)) [] 6,
  .mk (some p19) (some (p18, true)) (.mv (.t p0)) [] 7,
  .mk (some p20) (some (p18, true)) (.mv (.t p3)) [] 8,
  .mk (some p21) (some (p18, true)) (.bin .sub .num (.t p20) (.c (.int .i64 1))) [] 9,
  .mk (some p22) (some (p18, true)) (.iaddr 6 (.t p19) (.t p21)) [] 10,
  .mk (some p23) (some (p18, true)) (.load 6 true (.t p22)) [] 11,
  .mk (some p24) (some (p18, true)) (.load 6 true (.t p4)) [] 12,
  .mk (some p25) (some (p18, true)) (.call (.c (.fn 128 [])) [(.t p23), (.t p24)]) [] 13,
  .mk (some p26) (some (p18, true)) (.bin .geq .num (.t p25) (.c (.int .i64 0))) [] 14,
  .mk (some p27) (some (p15, false)) (.pick (.t p18) (.t p26) (.c (.bool false))) [] 15,
  .mk (some p28) none (.pick (.t p15) (.c (.bool true)) (.t p27)) [] 16] true
def c92_5 : CC := .reg [
  .mk (some p2) none (.mv (.c (.bool false))) [] 0] false
def c92_6 : CC := .reg [
  .mk (some p29) none (.bin .add .num (.t p7) (.c (.int .i64 1))) [] 0,
  .mk (some p7) none (.mv (.t p29)) [] 1] false
def c92_7 : CC := .loop (.seq c92_2 (.seq (.cond (.t p8) .skip (.exit 0)) (.seq (.blk 1 (.seq c92_3 (.seq c92_4 (.cond (.t p28) (.seq c92_5 .ret) .skip)))) c92_6)))
def c92_8 : CC := .reg [
  .mk (some p2) none (.mv (.c (.bool true))) [] 0] false
def F92 : CF := .mk 30 [p0] 5 (.seq c92_0 (.seq (.seq c92_1 (.blk 0 c92_7)) (.seq c92_8 .ret))) [.t p2] 1
/- (*daybook/pull.puller).items -/
def c93_0 : CC := .reg [
  .mk (some p4) none (.box 2 (.t p1)) [] 0,
  .mk (some p6) none (.mv (.c .nils)) [] 1] false
def c93_1 : CC := .reg [
  .mk (some p11) none (.mv (.t p2)) [] 0,
  .mk (some p12) none (.call (.c (.fn 130 [])) [(.t p11)]) [] 1,
  .mk (some p13) none (.call (.c (.fn 129 [])) [(.t p12), (.c (.fn 131 []))]) [] 2,
  .mk (some p7) none (.mv (.t p13)) [] 3] false
def c93_2 : CC := .reg [
  .mk (some p14) none (.mv (.t p7)) [] 0,
  .mk (some p15) none (.len 1 (.t p14)) [] 1,
  .mk (some p16) none (.mv (.t p2)) [] 2,
  .mk (some p17) none (.len 1 (.t p16)) [] 3,
  .mk (some p18) none (.bin .eql .num (.t p15) (.t p17)) [] 4] false
def c93_3 : CC := .reg [
  .mk (some p19) none (.mv (.t p7)) [] 0,
  .mk (some p6) none (.mv (.t p19)) [] 1] false
def c93_4 : CC := .reg [
  .mk (some p20) none (.mv (.t p0)) [] 0,
  .mk (some p21) none (.nilck (.t p20)) [] 1,
  .mk (some p22) none (.faddr 2 (.t p21)) [] 2,
  .mk (some p23) none (.load 1 false (.t p22)) [] 3,
  .mk (some p24) none (.len 1 (.t p23)) [] 4,
  .mk (some p25) none (.mv (.c (.int .i64 0))) [] 5] false
def c93_5 : CC := .reg [
  .mk (some p26) none (.bin .lss .num (.t p25) (.t p24)) [] 0] false
def c93_6 : CC := .reg [
  .mk (some p27) none (.iaddr 7 (.t p23) (.t p25)) [] 0,
  .mk (some p28) none (.load 7 true (.t p27)) [] 1,
  .mk (some p9) none (.alloc 66 [(.int .i64 0), (.str []), (.int .i64 0), (.bool false), (.int .i64 0), (.bool false), (.bool false)]) [] 2,
  .mk none none (.store 7 (.t p9) (.t p28)) [] 3] false
def c93_7 : CC := .reg [
  .mk (some p29) none (.mv (.t p0)) [] 0,
  .mk (some p30) none (.nilck (.t p29)) [] 1,
  .mk (some p31) none (.faddr 0 (.t p30)) [] 2,
  .mk (some p32) none (.load 1 false (.t p31)) [] 3,
  .mk (some p33) none (.mkfn 133 [(.t p4), (.t p9)]) [] 4,
  .mk (some p34) none (.call (.c (.fn 132 [])) [(.t p32), (.t p33)]) [] 5,
  .mk (some p10) none (.mv (.t p34)) [] 6] false
def c93_8 : CC := .reg [
  .mk (some p35) none (.mv (.t p10)) [] 0,
  .mk (some p36) none (.mv (.t p35)) [] 1,
  .mk (some p37) (some (p36, true)) (.mv (.t p2)) [] 2,
  .mk (some p38) (some (p36, true)) (.mkfn 134 [(.t p9)]) [] 3,
  .mk (some p39) (some (p36, true)) (.call (.c (.fn 75 [])) [(.t p37), (.t p38)]) [] 4,
  .mk (some p40) (some (p36, true)) (.un .not (.t p39)) [] 5,
  .mk (some p41) none (.pick (.t p36) (.t p40) (.c (.bool false))) [] 6] false
def c93_9 : CC := .reg [
  .mk (some p42) none (.mv (.t p7)) [] 0,
  .mk (some p43) none (.faddr 1 (.t p9)) [] 1,
  .mk (some p44) none (.load 1 false (.t p43)) [] 2,
  .mk (some p45) none (.build [(.bool false), (.str []), (.bool false), (.int .i64 0), (.bool false), (.int .i64 0), (.int .i64 0), (.str []), (.bool false), .nils, (.int .i64 0)] [(1, 1, (.t p44))]) [] 3,
  .mk (some p46) none (.bslice 44 11 [(.bool false), (.str []), (.bool false), (.int .i64 0), (.bool false), (.int .i64 0), (.int .i64 0), (.str []), (.bool false), .nils, (.int .i64 0)] 1 [(0, (.t p45))]) [] 4,
  .mk (some p47) none (.append 44 11 (.t p42) (.t p46)) [] 5,
  .mk (some p7) none (.mv (.t p47)) [] 6] false
def c93_10 : CC := .reg [
  .mk (some p48) none (.bin .add .num (.t p25) (.c (.int .i64 1))) [] 0,
  .mk (some p25) none (.mv (.t p48)) [] 1] false
def c93_11 : CC := .loop (.seq c93_5 (.seq (.cond (.t p26) .skip (.exit 0)) (.seq (.blk 1 (.seq c93_6 (.seq c93_7 (.seq c93_8 (.cond (.t p41) c93_9 .skip))))) c93_10)))
def c93_12 : CC := .reg [
  .mk (some p49) none (.mv (.t p7)) [] 0,
  .mk (some p6) none (.mv (.t p49)) [] 1] false
def F93 : CF := .mk 50 [p0, p1, p2] 6 (.seq c93_0 (.seq c93_1 (.seq (.seq c93_2 (.cond (.t p18) (.seq c93_3 .ret) .skip)) (.seq (.seq c93_4 (.blk 0 c93_11)) (.seq c93_12 .ret))))) [.t p6] 2
/- (*daybook/pull.puller).branch -/
def c94_0 : CC := .reg [
  .mk (some p5) none (.box 104 (.t p0)) [] 0,
  .mk (some p7) none (.box 44 (.t p2)) [] 1,
  .mk (some p8) none (.box 22 (.t p3)) [] 2,
  .mk (some p9) none (.box 63 (.t p4)) [] 3,
  .mk (some p10) none (.alloc 74 [(.str []), (.bool false), .nils]) [] 4] false
def c94_1 : CC := .reg [
  .mk (some p13) none (.faddr 1 (.t p7)) [] 0,
  .mk (some p14) none (.load 1 false (.t p13)) [] 1,
  .mk (some p15) none (.faddr 2 (.t p7)) [] 2,
  .mk (some p16) none (.load 1 false (.t p15)) [] 3,
  .mk (some p17) none (.build [(.str []), (.bool false), .nils] [(0, 1, (.t p14)), (1, 1, (.t p16))]) [] 4,
  .mk (some p11) none (.alloc 74 [(.str []), (.bool false), .nils]) [] 5,
  .mk none none (.store 3 (.t p11) (.t p17)) [] 6] false
def c94_2 : CC := .reg [
  .mk (some p18) none (.load 1 false (.t p5)) [] 0,
  .mk (some p19) none (.mv (.t p1)) [] 1,
  .mk (some p20) none (.load 11 true (.t p7)) [] 2,
  .mk (some p21) none (.call (.c (.fn 135 [])) [(.t p18), (.t p19), (.t p20)]) [] 3] false
def c94_3 : CC := .reg [
  .mk (some p12) none (.alloc 34 [(.int .i64 0), (.int .i64 0), (.str [])]) [] 0,
  .mk none none (.store 3 (.t p12) (.t p22)) [] 1] false
def c94_4 : CC := .reg [
  .mk (some p23) none (.load 1 false (.t p5)) [] 0,
  .mk (some p24) none (.nilck (.t p23)) [] 1,
  .mk (some p25) none (.faddr 4 (.t p24)) [] 2,
  .mk (some p26) none (.load 1 false (.t p25)) [] 3,
  .mk (some p27) none (.mv (.t p26)) [] 4,
  .mk (some p28) (some (p27, false)) (.faddr 3 (.t p7)) [] 5,
  .mk (some p29) (some (p27, false)) (.load 1 false (.t p28)) [] 6,
  .mk (some p30) (some (p27, false)) (.bin .gtr .num (.t p29) (.c (.int .i64 0))) [] 7,
  .mk (some p31) (some (p27, false)) (.mv (.t p30)) [] 8,
  .mk (some p32) (some (p31, true)) (.faddr 2 (.t p11)) [] 9,
  .mk (some p33) (some (p31, true)) (.load 1 false (.t p32)) [] 10,
  .mk (some p34) (some (p31, true)) (.len 1 (.t p33)) [] 11,
  .mk (some p35) (some (p31, true)) (.faddr 3 (.t p7)) [] 12,
  .mk (some p36) (some (p31, true)) (.load 1 false (.t p35)) [] 13,
  .mk (some p37) (some (p31, true)) (.bin .eql .num (.t p34) (.t p36)) [] 14,
  .mk (some p38) (some (p27, false)) (.pick (.t p31) (.t p37) (.c (.bool false))) [] 15,
  .mk (some p39) none (.pick (.t p27) (.c (.bool true)) (.t p38)) [] 16] false
def c94_5 : CC := .reg [
  .mk (some p40) none (.faddr 2 (.t p11)) [] 0,
  .mk (some p41) none (.load 1 false (.t p40)) [7] 1,
  .mk (some p42) none (.load 1 false (.t p5)) [] 2,
  .mk (some p43) none (.load 3 true (.t p12)) [] 3,
  .mk (some p44) none (.load 11 true (.t p7)) [] 4,
  .mk (some p45) none (.load 1 false (.t p8)) [] 5,
  .mk (some p46) none (.load 1 false (.t p9)) [] 6,
  .mk (some p47) none (.call (.c (.fn 136 [])) [(.t p42), (.t p43), (.t p44), (.t p45), (.t p46)]) [] 7,
  .mk (some p48) none (.bslice 76 5 [(.int .i64 0), (.int .i64 0), (.str []), (.bool false), .nils] 1 [(0, (.t p47))]) [] 8,
  .mk (some p49) none (.append 76 5 (.t p41) (.t p48)) [] 9,
  .mk (some p50) none (.faddr 2 (.t p11)) [] 10,
  .mk none none (.store 1 (.t p50) (.t p49)) [] 11] true
def c94_6 : CC := .rng (.t p21) [p22] c94_3 (.blk 1 (.seq (.seq c94_4 (.cond (.t p39) (.exit 0) .skip)) c94_5))
def c94_7 : CC := .reg [
  .mk (some p51) none (.faddr 2 (.t p11)) [] 0,
  .mk (some p52) none (.load 1 false (.t p51)) [] 1,
  .mk (some p53) none (.len 1 (.t p52)) [] 2,
  .mk (some p54) none (.bin .eql .num (.t p53) (.c (.int .i64 0))) [] 3,
  .mk (some p55) none (.mv (.t p54)) [] 4,
  .mk (some p56) (some (p55, true)) (.faddr 4 (.t p7)) [] 5,
  .mk (some p57) (some (p55, true)) (.load 1 false (.t p56)) [] 6,
  .mk (some p58) none (.pick (.t p55) (.t p57) (.c (.bool false))) [] 7] false
def c94_8 : CC := .reg [
  .mk (some p59) none (.faddr 2 (.t p11)) [] 0,
  .mk (some p60) none (.load 1 false (.t p59)) [6] 1,
  .mk (some p61) none (.load 1 false (.t p5)) [] 2,
  .mk (some p62) none (.faddr 5 (.t p7)) [] 3,
  .mk (some p63) none (.load 3 true (.t p62)) [] 4,
  .mk (some p64) none (.build [(.bool false), (.str []), (.bool false), (.int .i64 0), (.bool false), (.int .i64 0), (.int .i64 0), (.str []), (.bool false), .nils, (.int .i64 0)] []) [] 5,
  .mk (some p65) none (.call (.c (.fn 136 [])) [(.t p61), (.t p63), (.t p64), (.c .nils), (.c .nils)]) [] 6,
  .mk (some p66) none (.bslice 76 5 [(.int .i64 0), (.int .i64 0), (.str []), (.bool false), .nils] 1 [(0, (.t p65))]) [] 7,
  .mk (some p67) none (.append 76 5 (.t p60) (.t p66)) [] 8,
  .mk (some p68) none (.faddr 2 (.t p11)) [] 9,
  .mk none none (.store 1 (.t p68) (.t p67)) [] 10] true
def c94_9 : CC := .reg [
  .mk (some p69) none (.load 3 true (.t p11)) [] 0,
  .mk none none (.store 3 (.t p10) (.t p69)) [] 1] false
def F94 : CF := .mk 70 [p0, p1, p2, p3, p4] 7 (.seq c94_0 (.scope (.seq c94_1 (.seq .skip (.seq (.seq c94_2 (.blk 0 c94_6)) (.seq (.seq c94_7 (.cond (.t p58) c94_8 .skip)) (.seq c94_9 .ret))))))) [.cell p10 3 true] 2
/- slices.SortFunc[[]daybook/api.Branch,daybook/api.Branch] -/
def c95_0 : CC := .reg [
  .mk (some p5) none (.mv (.t p0)) [] 0,
  .mk (some p6) none (.len 1 (.t p5)) [] 1,
  .mk (some p4) none (.mv (.t p6)) [] 2] false
def c95_1 : CC := .reg [
  .mk (some p7) none (.mv (.t p0)) [] 0,
  .mk (some p8) none (.mv (.t p4)) [] 1,
  .mk (some p9) none (.mv (.t p4)) [] 2,
  .mk (some p10) none (.toint .u64 (.t p9)) [] 3,
  .mk (some p11) none (.call (.c (.fn 138 [])) [(.t p10)]) [] 4,
  .mk (some p12) none (.mv (.t p1)) [] 5,
  .mk (some p13) none (.call (.c (.fn 137 [])) [(.t p7), (.c (.int .i64 0)), (.t p8), (.t p11), (.t p12)]) [] 6] false
def F95 : CF := .mk 14 [p0, p1] 4 (.seq c95_0 c95_1) [] 0
/- daybook/pull.compare -/
def c96_0 : CC := .reg [
  .mk (some p2) none (.box 74 (.t p0)) [] 0,
  .mk (some p3) none (.box 74 (.t p1)) [] 1,
  .mk (some p4) none (.mv (.c (.int .i64 0))) [] 2] false
def c96_1 : CC := .reg [
  .mk (some p5) none (.faddr 0 (.t p2)) [] 0,
  .mk (some p6) none (.load 1 false (.t p5)) [] 1,
  .mk (some p7) none (.faddr 0 (.t p3)) [] 2,
  .mk (some p8) none (.load 1 false (.t p7)) [] 3,
  .mk (some p10) none (.faddr 1 (.t p2)) [] 5,
  .mk (some p11) none (.load 1 false (.t p10)) [8] 6,
  .mk (some p13) none (.faddr 1 (.t p3)) [] 8,
  .mk (some p14) none (.load 1 false (.t p13)) [8, 9] 9,
  .mk (some p9) none (.call (.c (.fn 140 [])) [(.t p6), (.t p8)]) [] 4,
  .mk (some p12) none (.call (.c (.fn 142 [])) [(.t p11)]) [] 7,
  .mk (some p15) none (.call (.c (.fn 142 [])) [(.t p14)]) [] 10,
  .mk (some p16) none (.call (.c (.fn 141 [])) [(.t p12), (.t p15)]) [] 11,
  .mk (some p17) none (.bslice 3 1 [(.int .i64 0)] 2 [(0, (.t p9)), (1, (.t p16))]) [] 12,
  .mk (some p18) none (.call (.c (.fn 139 [])) [(.t p17)]) [] 13,
  .mk (some p4) none (.mv (.t p18)) [] 14] true
def F96 : CF := .mk 19 [p0, p1] 5 (.seq c96_0 (.seq c96_1 .ret)) [.t p4] 1
/- daybook/value.Check -/
def c97_0 : CC := .reg [
  .mk (some p1) none (.box 34 (.t p0)) [] 0,
  .mk (some p2) none (.mv (.c (.int .i64 0))) [] 1] false
def c97_1 : CC := .reg [
  .mk (some p3) none (.load 3 true (.t p1)) [] 0,
  .mk (some p4) none (.call (.c (.fn 107 [])) [(.t p3)]) [] 1,
  .mk (some p5) none (.un .not (.t p4)) [] 2] false
def c97_2 : CC := .reg [
  .mk (some p2) none (.mv (.c (.int .i64 10))) [] 0] false
def c97_3 : CC := .reg [
  .mk (some p2) none (.mv (.c (.int .i64 0))) [] 0] false
def F97 : CF := .mk 6 [p0] 3 (.seq c97_0 (.seq (.seq c97_1 (.cond (.t p5) (.seq c97_2 .ret) .skip)) (.seq c97_3 .ret))) [.t p2] 1
/- daybook/pull.said -/
def c98_0 : CC := .reg [
  .mk (some p1) none (.box 34 (.t p0)) [] 0,
  .mk (some p2) none (.alloc 36 [(.int .i64 0), (.int .i64 0), (.int .i64 0), (.str []), (.str []), .nils, (.int .i64 0), (.int .i64 0)]) [] 1] false
def c98_1 : CC := .reg [
  .mk (some p3) none (.load 3 true (.t p1)) [] 0,
  .mk (some p4) none (.build [(.int .i64 0), (.int .i64 0), (.int .i64 0), (.str []), (.str []), .nils, (.int .i64 0), (.int .i64 0)] [(0, 1, (.c (.int .i64 1))), (1, 3, (.t p3))]) [] 1,
  .mk none none (.store 8 (.t p2) (.t p4)) [] 2] false
def F98 : CF := .mk 5 [p0] 3 (.seq c98_0 (.seq c98_1 .ret)) [.cell p2 8 true] 1
/- slices.Chunk[[]daybook/api.Node,daybook/api.Node] -/
def c99_0 : CC := .reg [
  .mk (some p2) none (.box 29 (.t p0)) [] 0,
  .mk (some p3) none (.box 3 (.t p1)) [] 1,
  .mk (some p4) none (.mv (.c .nilf)) [] 2] false
def c99_1 : CC := .reg [
  .mk (some p5) none (.load 1 false (.t p3)) [] 0,
  .mk (some p6) none (.bin .lss .num (.t p5) (.c (.int .i64 1))) [] 1] false
def c99_2 : CC := .reg [
  .mk (some p7) none (.mkif 9 (.c (.str [99, 97, 110, 110, 111, 116, 32, 98, 101, 32, 108, 101, 115, 115, 32, 116, 104, 97, 110, 32, 49]))) [] 0,
  .mk none none .bad [] 1] false
def c99_3 : CC := .reg [
  .mk (some p8) none (.mkfn 143 [(.t p2), (.t p3)]) [] 0,
  .mk (some p4) none (.mv (.t p8)) [] 1] false
def F99 : CF := .mk 9 [p0, p1] 4 (.seq c99_0 (.seq (.seq c99_1 (.cond (.t p6) c99_2 .skip)) (.seq c99_3 .ret))) [.t p4] 0
/- daybook/pull.leaf -/
def c100_0 : CC := .reg [
  .mk (some p2) none (.box 36 (.t p0)) [] 0,
  .mk (some p4) none (.alloc 76 [(.int .i64 0), (.int .i64 0), (.str []), (.bool false), .nils]) [] 1,
  .mk (some p5) none (.mv (.c (.bool false))) [] 2] false
def c100_1 : CC := .reg [
  .mk (some p8) none (.faddr 0 (.t p2)) [] 0,
  .mk (some p9) none (.load 1 false (.t p8)) [] 1,
  .mk (some p10) none (.bin .neq .num (.t p9) (.c (.int .i64 3))) [] 2] false
def c100_2 : CC := .reg [
  .mk (some p11) none (.faddr 1 (.t p2)) [] 0,
  .mk (some p12) none (.load 3 true (.t p11)) [] 1,
  .mk (some p13) none (.build [(.int .i64 0), (.int .i64 0), (.str []), (.bool false), .nils] [(0, 3, (.t p12))]) [] 2,
  .mk none none (.store 5 (.t p4) (.t p13)) [] 3,
  .mk (some p5) none (.mv (.c (.bool true))) [] 4] false
def c100_3 : CC := .reg [
  .mk (some p14) none (.faddr 5 (.t p2)) [] 0,
  .mk (some p15) none (.load 1 false (.t p14)) [] 1,
  .mk (some p16) none (.len 1 (.t p15)) [] 2,
  .mk (some p17) none (.bin .neq .num (.t p16) (.c (.int .i64 2))) [] 3] false
def c100_4 : CC := .reg [
  .mk (some p18) none (.build [(.int .i64 0), (.int .i64 0), (.str []), (.bool false), .nils] []) [] 0,
  .mk none none (.store 5 (.t p4) (.t p18)) [] 1,
  .mk (some p5) none (.mv (.c (.bool false))) [] 2] false
def c100_5 : CC := .reg [
  .mk (some p20) none (.faddr 5 (.t p2)) [] 0,
  .mk (some p21) none (.load 1 false (.t p20)) [] 1,
  .mk (some p22) none (.iaddr 8 (.t p21) (.c (.int .i64 1))) [] 2,
  .mk (some p23) none (.load 8 true (.t p22)) [] 3,
  .mk (some p24) none (.mv (.t p1)) [] 4,
  .mk (some p25) none (.bin .add .num (.t p24) (.c (.int .i64 1))) [] 5,
  .mk (some p26) none (.call (.c (.fn 62 [])) [(.t p23), (.t p25)]) [] 6,
  .mk (some p19) none (.mv (.t p26)) [] 7,
  .mk (some p27) none (.ext 0 (.t p19)) [] 8,
  .mk (some p28) none (.ext 1 (.t p19)) [] 9,
  .mk (some p6) none (.mv (.t p27)) [] 10,
  .mk (some p7) none (.mv (.t p28)) [] 11] false
def c100_6 : CC := .reg [
  .mk (some p29) none (.faddr 5 (.t p2)) [] 0,
  .mk (some p30) none (.load 1 false (.t p29)) [] 1,
  .mk (some p31) none (.iaddr 8 (.t p30) (.c (.int .i64 0))) [] 2,
  .mk (some p32) none (.faddr 1 (.t p31)) [] 3,
  .mk (some p33) none (.load 3 true (.t p32)) [] 4,
  .mk (some p34) none (.mv (.t p6)) [] 5,
  .mk (some p35) none (.build [(.int .i64 0), (.int .i64 0), (.str []), (.bool false), .nils] [(0, 3, (.t p33)), (3, 1, (.c (.bool true))), (4, 1, (.t p34))]) [] 6,
  .mk (some p36) none (.mv (.t p7)) [] 7,
  .mk none none (.store 5 (.t p4) (.t p35)) [] 8,
  .mk (some p5) none (.mv (.t p36)) [] 9] false
def F100 : CF := .mk 37 [p0, p1] 6 (.seq c100_0 (.seq (.seq c100_1 (.cond (.t p10) (.seq c100_2 .ret) .skip)) (.seq (.seq c100_3 (.cond (.t p17) (.seq c100_4 .ret) .skip)) (.seq c100_5 (.seq c100_6 .ret))))) [.cell p4 5 true, .t p5] 1
/- daybook/text.tokens$1 -/
def c101_0 : CC := .reg [
  .mk (some p3) none (.mv (.c (.int .i64 1))) [] 0,
  .mk (some p4) none (.mv (.c (.int .i64 0))) [] 1] false
def c101_1 : CC := .reg [
  .mk (some p5) none (.mv (.c (.bool false))) [] 0] false
def c101_2 : CC := .reg [
  .mk (some p6) none (.mv (.c (.int .i64 0))) [] 0] false
def c101_3 : CC := .reg [
  .mk (some p13) none (.mv (.t p6)) [] 0,
  .mk (some p14) none (.load 1 false (.t p1)) [] 1,
  .mk (some p15) none (.len 0 (.t p14)) [] 2,
  .mk (some p16) none (.bin .lss .num (.t p13) (.t p15)) [] 3] false
def c101_4 : CC := .reg [
  .mk (some p17) none (.mv (.t p3)) [] 0,
  .mk (some p18) none (.mv (.t p6)) [] 1,
  .mk (some p19) none (.mv (.t p4)) [] 2,
  .mk (some p20) none (.bin .sub .num (.t p18) (.t p19)) [] 3,
  .mk (some p21) none (.bin .add .num (.t p20) (.c (.int .i64 1))) [] 4,
  .mk (some p22) none (.build [(.str []), (.int .i64 0), (.int .i64 0), (.bool false)] [(1, 1, (.t p17)), (2, 1, (.t p21))]) [] 5,
  .mk (some p7) none (.alloc 124 [(.str []), (.int .i64 0), (.int .i64 0), (.bool false)]) [] 6,
  .mk none none (.store 4 (.t p7) (.t p22)) [] 7] false
def c101_5 : CC := .reg [
  .mk (some p23) none (.load 1 false (.t p1)) [] 0,
  .mk (some p24) none (.mv (.t p6)) [] 1,
  .mk (some p25) none (.index (.t p23) (.t p24)) [] 2,
  .mk (some p8) none (.mv (.t p25)) [] 3] false
def c101_6 : CC := .reg [
  .mk (some p27) none (.mv (.t p8)) [] 0,
  .mk (some p28) none (.bin .eql .num (.t p27) (.c (.int .u8 10))) [] 1,
  .mk (some p26) none (.mv (.t p28)) [] 2] false
def c101_7 : CC := .reg [
  .mk (some p30) none (.mv (.t p8)) [] 0,
  .mk (some p31) none (.call (.c (.fn 102 [])) [(.t p30)]) [] 1,
  .mk (some p29) none (.mv (.t p31)) [] 2] false
def c101_8 : CC := .reg [
  .mk (some p33) none (.mv (.t p8)) [] 0,
  .mk (some p34) none (.bin .eql .num (.t p33) (.c (.int .u8 59))) [] 1,
  .mk (some p32) none (.mv (.t p34)) [] 2] false
def c101_9 : CC := .reg [
  .mk (some p36) none (.mv (.t p8)) [] 0,
  .mk (some p37) none (.call (.c (.fn 103 [])) [(.c (.str [40, 91, 123, 41, 93, 125])), (.t p36)]) [] 1,
  .mk (some p38) none (.bin .geq .num (.t p37) (.c (.int .i64 0))) [] 2,
  .mk (some p35) none (.mv (.t p38)) [] 3] false
def c101_10 : CC := .reg [
  .mk (some p39) none (.mv (.t p3)) [] 0,
  .mk (some p40) none (.bin .add .num (.t p39) (.c (.int .i64 1))) [] 1,
  .mk (some p3) none (.mv (.t p40)) [] 2] false
def c101_11 : CC := .reg [
  .mk (some p41) none (.mv (.t p6)) [] 0,
  .mk (some p42) none (.bin .add .num (.t p41) (.c (.int .i64 1))) [] 1,
  .mk (some p4) none (.mv (.t p42)) [] 2] false
def c101_12 : CC := .reg [
  .mk (some p5) none (.mv (.c (.bool false))) [] 0] false
def c101_13 : CC := .reg [
  .mk (some p43) none (.mv (.t p6)) [] 0,
  .mk (some p44) none (.bin .add .num (.t p43) (.c (.int .i64 1))) [] 1,
  .mk (some p6) none (.mv (.t p44)) [] 2] false
def c101_14 : CC := .reg [
  .mk (some p45) none (.mv (.t p6)) [] 0,
  .mk (some p46) none (.load 1 false (.t p1)) [] 1,
  .mk (some p47) none (.len 0 (.t p46)) [] 2,
  .mk (some p48) none (.bin .lss .num (.t p45) (.t p47)) [] 3,
  .mk (some p49) none (.mv (.t p48)) [] 4,
  .mk (some p50) (some (p49, true)) (.load 1 false (.t p1)) [] 5,
  .mk (some p51) (some (p49, true)) (.mv (.t p6)) [] 6,
  .mk (some p52) (some (p49, true)) (.index (.t p50) (.t p51)) [] 7,
  .mk (some p53) (some (p49, true)) (.bin .neq .num (.t p52) (.c (.int .u8 10))) [] 8,
  .mk (some p54) none (.pick (.t p49) (.t p53) (.c (.bool false))) [] 9] false
def c101_15 : CC := .reg [
  .mk (some p55) none (.mv (.t p6)) [] 0,
  .mk (some p56) none (.bin .add .num (.t p55) (.c (.int .i64 1))) [] 1,
  .mk (some p6) none (.mv (.t p56)) [] 2] false
def c101_16 : CC := .loop (.seq (.seq c101_14 (.cond (.t p54) .skip (.exit 8))) (.blk 9 c101_15))
def c101_17 : CC := .reg [
  .mk (some p57) none (.load 1 false (.t p1)) [] 0,
  .mk (some p58) none (.mv (.t p6)) [] 1,
  .mk (some p59) none (.mv (.t p6)) [] 2,
  .mk (some p60) none (.bin .add .num (.t p59) (.c (.int .i64 1))) [] 3,
  .mk (some p61) none (.slices (.t p57) (some (.t p58)) (some (.t p60))) [] 4,
  .mk (some p62) none (.faddr 0 (.t p7)) [] 5,
  .mk none none (.store 1 (.t p62) (.t p61)) [] 6,
  .mk (some p5) none (.mv (.c (.bool false))) [] 7] false
def c101_18 : CC := .reg [
  .mk (some p64) none (.load 1 false (.t p1)) [] 0,
  .mk (some p65) none (.mv (.t p6)) [] 1,
  .mk (some p66) none (.slices (.t p64) (some (.t p65)) none) [] 2,
  .mk (some p67) none (.call (.c (.fn 104 [])) [(.t p66)]) [] 3,
  .mk (some p63) none (.mv (.t p67)) [] 4,
  .mk (some p68) none (.ext 0 (.t p63)) [] 5,
  .mk (some p69) none (.ext 1 (.t p63)) [] 6,
  .mk (some p9) none (.mv (.t p68)) [] 7,
  .mk (some p10) none (.mv (.t p69)) [] 8] false
def c101_19 : CC := .reg [
  .mk (some p70) none (.mv (.t p5)) [] 0,
  .mk (some p71) none (.mv (.t p70)) [] 1,
  .mk (some p72) (some (p71, false)) (.mv (.t p10)) [] 2,
  .mk (some p73) (some (p71, false)) (.un .not (.t p72)) [] 3,
  .mk (some p74) none (.pick (.t p71) (.c (.bool true)) (.t p73)) [] 4,
  .mk (some p75) none (.faddr 3 (.t p7)) [] 5,
  .mk none none (.store 1 (.t p75) (.t p74)) [] 6] false
def c101_20 : CC := .reg [
  .mk (some p76) none (.mv (.t p5)) [] 0,
  .mk (some p77) none (.un .not (.t p76)) [] 1,
  .mk (some p78) none (.mv (.t p77)) [] 2,
  .mk (some p79) (some (p78, true)) (.mv (.t p10)) [] 3,
  .mk (some p80) (some (p78, true)) (.un .not (.t p79)) [] 4,
  .mk (some p81) none (.pick (.t p78) (.t p80) (.c (.bool false))) [] 5,
  .mk (some p82) none (.mv (.t p81)) [] 6,
  .mk (some p83) (some (p82, true)) (.mv (.t p8)) [] 7,
  .mk (some p84) (some (p82, true)) (.bin .eql .num (.t p83) (.c (.int .u8 34))) [] 8,
  .mk (some p85) none (.pick (.t p82) (.t p84) (.c (.bool false))) [] 9] false
def c101_21 : CC := .reg [
  .mk (some p86) none (.load 1 false (.t p1)) [] 0,
  .mk (some p87) none (.mv (.t p6)) [] 1,
  .mk (some p88) none (.slices (.t p86) (some (.t p87)) none) [] 2,
  .mk (some p89) none (.s2b (.t p88)) [] 3,
  .mk (some p90) none (.len 1 (.t p89)) [] 4,
  .mk (some p91) none (.mv (.c (.int .i64 0))) [] 5] false
def c101_22 : CC := .reg [
  .mk (some p92) none (.bin .lss .num (.t p91) (.t p90)) [] 0] false
def c101_23 : CC := .reg [
  .mk (some p93) none (.iaddr 1 (.t p89) (.t p91)) [] 0,
  .mk (some p94) none (.load 1 false (.t p93)) [] 1,
  .mk (some p12) none (.mv (.t p94)) [] 2] false
def c101_24 : CC := .reg [
  .mk (some p95) none (.mv (.t p6)) [] 0,
  .mk (some p96) none (.bin .add .num (.t p95) (.c (.int .i64 1))) [] 1,
  .mk (some p6) none (.mv (.t p96)) [] 2] false
def c101_25 : CC := .reg [
  .mk (some p97) none (.mv (.t p12)) [] 0,
  .mk (some p98) none (.bin .eql .num (.t p97) (.c (.int .u8 10))) [] 1] false
def c101_26 : CC := .reg [
  .mk (some p99) none (.mv (.t p3)) [] 0,
  .mk (some p100) none (.bin .add .num (.t p99) (.c (.int .i64 1))) [] 1,
  .mk (some p3) none (.mv (.t p100)) [] 2] false
def c101_27 : CC := .reg [
  .mk (some p101) none (.mv (.t p6)) [] 0,
  .mk (some p4) none (.mv (.t p101)) [] 1] false
def c101_28 : CC := .reg [
  .mk (some p102) none (.bin .add .num (.t p91) (.c (.int .i64 1))) [] 0,
  .mk (some p91) none (.mv (.t p102)) [] 1] false
def c101_29 : CC := .loop (.seq c101_22 (.seq (.cond (.t p92) .skip (.exit 10)) (.seq (.blk 11 (.seq c101_23 (.seq c101_24 (.seq c101_25 (.cond (.t p98) (.seq c101_26 c101_27) .skip))))) c101_28)))
def c101_30 : CC := .reg [
  .mk (some p103) none (.mv (.t p3)) [] 0,
  .mk (some p104) none (.mv (.t p6)) [] 1,
  .mk (some p105) none (.mv (.t p4)) [] 2,
  .mk (some p106) none (.bin .sub .num (.t p104) (.t p105)) [] 3,
  .mk (some p107) none (.bin .add .num (.t p106) (.c (.int .i64 1))) [] 4,
  .mk (some p108) none (.faddr 1 (.t p7)) [] 5,
  .mk none none (.store 1 (.t p108) (.t p103)) [] 6,
  .mk (some p109) none (.faddr 2 (.t p7)) [] 7,
  .mk none none (.store 1 (.t p109) (.t p107)) [] 8] false
def c101_31 : CC := .reg [
  .mk (some p110) none (.faddr 3 (.t p7)) [] 0,
  .mk (some p111) none (.load 1 false (.t p110)) [] 1] false
def c101_32 : CC := .reg [
  .mk (some p112) none (.mv (.t p0)) [] 0,
  .mk (some p113) none (.load 4 true (.t p7)) [] 1,
  .mk (some p114) none (.call (.t p112) [(.t p113)]) [] 2] false
def c101_33 : CC := .reg [
  .mk (some p115) none (.load 1 false (.t p1)) [] 0,
  .mk (some p116) none (.mv (.t p6)) [] 1,
  .mk (some p117) none (.mv (.t p6)) [] 2,
  .mk (some p118) none (.mv (.t p9)) [] 3,
  .mk (some p119) none (.bin .add .num (.t p117) (.t p118)) [] 4,
  .mk (some p120) none (.slices (.t p115) (some (.t p116)) (some (.t p119))) [] 5,
  .mk (some p121) none (.faddr 0 (.t p7)) [] 6,
  .mk none none (.store 1 (.t p121) (.t p120)) [] 7,
  .mk (some p5) none (.mv (.c (.bool true))) [] 8] false
def c101_34 : CC := .reg [
  .mk (some p122) none (.mv (.t p0)) [] 0,
  .mk (some p123) none (.load 4 true (.t p7)) [] 1,
  .mk (some p124) none (.call (.t p122) [(.t p123)]) [] 2,
  .mk (some p125) none (.un .not (.t p124)) [] 3] false
def c101_35 : CC := .reg [
  .mk (some p126) none (.mv (.t p6)) [] 0,
  .mk (some p127) none (.faddr 0 (.t p7)) [] 1,
  .mk (some p128) none (.load 1 false (.t p127)) [] 2,
  .mk (some p129) none (.len 0 (.t p128)) [] 3,
  .mk (some p130) none (.bin .add .num (.t p126) (.t p129)) [] 4,
  .mk (some p6) none (.mv (.t p130)) [] 5] false
def c101_36 : CC := .loop (.seq (.seq c101_3 (.cond (.t p16) .skip (.exit 0))) (.blk 1 (.seq c101_4 (.seq (.seq c101_5 (.blk 2 (.seq (.blk 7 (.seq (.blk 6 (.seq (.blk 5 (.seq (.blk 4 (.seq (.blk 3 (.seq (.seq (.seq c101_6 (.cond (.t p26) (.exit 3) .skip)) (.seq (.seq c101_7 (.cond (.t p29) (.exit 4) .skip)) (.seq (.seq c101_8 (.cond (.t p32) (.exit 5) .skip)) (.seq c101_9 (.cond (.t p35) (.exit 6) .skip))))) (.exit 7))) (.seq c101_10 c101_11))) (.seq (.seq c101_12 (.seq c101_13 (.exit 1))) (.exit 2)))) (.seq (.seq (.blk 8 c101_16) (.exit 1)) (.exit 2)))) (.seq c101_17 (.exit 2)))) (.seq (.seq c101_18 (.seq c101_19 (.seq (.seq c101_20 (.cond (.t p85) (.seq (.seq c101_21 (.blk 10 c101_29)) c101_30) .skip)) (.seq (.seq c101_31 (.cond (.t p111) (.seq c101_32 .ret) .skip)) c101_33)))) (.exit 2))))) (.seq (.seq c101_34 (.cond (.t p125) .ret .skip)) c101_35)))))
def c101_37 : CC := .reg [
  .mk (some p131) none (.mv (.t p0)) [] 0,
  .mk (some p132) none (.mv (.t p3)) [] 1,
  .mk (some p133) none (.load 1 false (.t p1)) [] 2,
  .mk (some p134) none (.len 0 (.t p133)) [] 3,
  .mk (some p135) none (.mv (.t p4)) [] 4,
  .mk (some p136) none (.bin .sub .num (.t p134) (.t p135)) [] 5,
  .mk (some p137) none (.bin .add .num (.t p136) (.c (.int .i64 1))) [] 6,
  .mk (some p138) none (.build [(.str []), (.int .i64 0), (.int .i64 0), (.bool false)] [(1, 1, (.t p132)), (2, 1, (.t p137))]) [] 7,
  .mk (some p139) none (.call (.t p131) [(.t p138)]) [] 8] false
def F101 : CF := .mk 140 [p0, p1] 8 (.scope (.seq c101_0 (.seq c101_1 (.seq .skip (.seq (.seq c101_2 (.blk 0 c101_36)) c101_37))))) [] 0
/- daybook/text.blank -/
def c102_0 : CC := .reg [
  .mk (some p2) none (.mv (.c (.bool false))) [] 0] false
def c102_1 : CC := .reg [
  .mk (some p3) none (.mv (.t p0)) [] 0,
  .mk (some p4) none (.bin .eql .num (.t p3) (.c (.int .u8 32))) [] 1,
  .mk (some p5) none (.mv (.t p4)) [] 2,
  .mk (some p6) (some (p5, false)) (.mv (.t p0)) [] 3,
  .mk (some p7) (some (p5, false)) (.bin .eql .num (.t p6) (.c (.int .u8 9))) [] 4,
  .mk (some p8) none (.pick (.t p5) (.c (.bool true)) (.t p7)) [] 5,
  .mk (some p9) none (.mv (.t p8)) [] 6,
  .mk (some p10) (some (p9, false)) (.mv (.t p0)) [] 7,
  .mk (some p11) (some (p9, false)) (.bin .eql .num (.t p10) (.c (.int .u8 10))) [] 8,
  .mk (some p12) none (.pick (.t p9) (.c (.bool true)) (.t p11)) [] 9,
  .mk (some p13) none (.mv (.t p12)) [] 10,
  .mk (some p14) (some (p13, false)) (.mv (.t p0)) [] 11,
  .mk (some p15) (some (p13, false)) (.bin .eql .num (.t p14) (.c (.int .u8 13))) [] 12,
  .mk (some p16) none (.pick (.t p13) (.c (.bool true)) (.t p15)) [] 13,
  .mk (some p2) none (.mv (.t p16)) [] 14] false
def F102 : CF := .mk 17 [p0] 5 (.seq c102_0 (.seq c102_1 .ret)) [.t p2] 1
/- daybook/text.size -/
def c104_0 : CC := .reg [
  .mk (some p2) none (.mv (.c (.int .i64 0))) [] 0,
  .mk (some p3) none (.mv (.c (.bool false))) [] 1] false
def c104_1 : CC := .reg [
  .mk (some p7) none (.mv (.t p0)) [] 0,
  .mk (some p8) none (.index (.t p7) (.c (.int .i64 0))) [] 1,
  .mk (some p9) none (.bin .eql .num (.t p8) (.c (.int .u8 34))) [] 2] false
def c104_2 : CC := .reg [
  .mk (some p10) none (.mv (.t p0)) [] 0,
  .mk (some p11) none (.slices (.t p10) (some (.c (.int .i64 1))) none) [] 1,
  .mk (some p12) none (.call (.c (.fn 103 [])) [(.t p11), (.c (.int .u8 34))]) [] 2,
  .mk (some p4) none (.mv (.t p12)) [] 3] false
def c104_3 : CC := .reg [
  .mk (some p13) none (.mv (.t p4)) [] 0,
  .mk (some p14) none (.bin .add .num (.t p13) (.c (.int .i64 2))) [] 1,
  .mk (some p15) none (.mv (.t p4)) [] 2,
  .mk (some p16) none (.bin .geq .num (.t p15) (.c (.int .i64 0))) [] 3,
  .mk (some p2) none (.mv (.t p14)) [] 4,
  .mk (some p3) none (.mv (.t p16)) [] 5] false
def c104_4 : CC := .reg [
  .mk (some p5) none (.mv (.c (.fn 145 []))) [] 0] false
def c104_5 : CC := .reg [
  .mk (some p6) none (.mv (.c (.int .i64 0))) [] 0] false
def c104_6 : CC := .reg [
  .mk (some p17) none (.mv (.t p6)) [] 0,
  .mk (some p18) none (.mv (.t p0)) [] 1,
  .mk (some p19) none (.len 0 (.t p18)) [] 2,
  .mk (some p20) none (.bin .lss .num (.t p17) (.t p19)) [] 3,
  .mk (some p21) none (.mv (.t p20)) [] 4,
  .mk (some p22) (some (p21, true)) (.mv (.t p5)) [] 5,
  .mk (some p23) (some (p21, true)) (.mv (.t p0)) [] 6,
  .mk (some p24) (some (p21, true)) (.mv (.t p6)) [] 7,
  .mk (some p25) (some (p21, true)) (.index (.t p23) (.t p24)) [] 8,
  .mk (some p26) (some (p21, true)) (.call (.t p22) [(.t p25)]) [] 9,
  .mk (some p27) none (.pick (.t p21) (.t p26) (.c (.bool false))) [] 10] false
def c104_7 : CC := .reg [
  .mk (some p28) none (.mv (.t p6)) [] 0,
  .mk (some p29) none (.bin .add .num (.t p28) (.c (.int .i64 1))) [] 1,
  .mk (some p6) none (.mv (.t p29)) [] 2] false
def c104_8 : CC := .loop (.seq (.seq c104_6 (.cond (.t p27) .skip (.exit 0))) (.blk 1 c104_7))
def c104_9 : CC := .reg [
  .mk (some p30) none (.mv (.t p6)) [] 0,
  .mk (some p31) none (.mv (.t p6)) [] 1,
  .mk (some p32) none (.bin .gtr .num (.t p31) (.c (.int .i64 0))) [] 2,
  .mk (some p2) none (.mv (.t p30)) [] 3,
  .mk (some p3) none (.mv (.t p32)) [] 4] false
def F104 : CF := .mk 33 [p0] 6 (.seq c104_0 (.seq (.seq c104_1 (.cond (.t p9) (.seq c104_2 (.seq c104_3 .ret)) .skip)) (.seq c104_4 (.seq c104_5 (.seq (.blk 0 c104_8) (.seq c104_9 .ret)))))) [.t p2, .t p3] 1
/- daybook/value.read -/
def c106_0 : CC := .reg [
  .mk (some p2) none (.alloc 34 [(.int .i64 0), (.int .i64 0), (.str [])]) [] 0,
  .mk (some p3) none (.alloc 4 [(.bool false)]) [] 1] false
def c106_1 : CC := .reg [
  .mk (some p18) none (.mv (.t p0)) [] 0,
  .mk (some p19) none (.bin .eql .num (.t p18) (.c (.str []))) [] 1] false
def c106_2 : CC := .reg [
  .mk (some p20) none (.build [(.int .i64 0), (.int .i64 0), (.str [])] []) [] 0,
  .mk none none (.store 3 (.t p2) (.t p20)) [] 1,
  .mk none none (.store 1 (.t p3) (.c (.bool false))) [] 2] false
def c106_3 : CC := .reg [
  .mk (some p21) none (.mv (.t p0)) [] 0,
  .mk (some p22) none (.slices (.t p21) (some (.c (.int .i64 1))) none) [] 1,
  .mk (some p4) none (.mv (.t p22)) [] 2] false
def c106_4 : CC := .reg [
  .mk (some p23) none (.mv (.t p0)) [] 0,
  .mk (some p24) none (.index (.t p23) (.c (.int .i64 0))) [] 1] false
def c106_5 : CC := .reg [
  .mk (some p26) none (.bin .eql .num (.t p24) (.c (.int .u8 116))) [] 0,
  .mk (some p25) none (.mv (.t p26)) [] 1] false
def c106_6 : CC := .reg [
  .mk (some p27) none (.bin .eql .num (.t p24) (.c (.int .u8 102))) [] 0,
  .mk (some p25) none (.mv (.t p27)) [] 1] false
def c106_7 : CC := .reg [
  .mk (some p28) none (.mv (.t p0)) [] 0,
  .mk (some p29) none (.len 0 (.t p28)) [] 1,
  .mk (some p30) none (.bin .sub .num (.c (.int .i64 5)) (.t p29)) [] 2,
  .mk (some p31) none (.build [(.int .i64 0), (.int .i64 0), (.str [])] [(0, 1, (.c (.int .i64 2))), (1, 1, (.t p30))]) [] 3,
  .mk (some p32) none (.mv (.t p0)) [] 4,
  .mk (some p33) none (.bin .eql .num (.t p32) (.c (.str [116, 114, 117, 101]))) [] 5,
  .mk (some p34) none (.mv (.t p33)) [] 6,
  .mk (some p35) (some (p34, false)) (.mv (.t p0)) [] 7,
  .mk (some p36) (some (p34, false)) (.bin .eql .num (.t p35) (.c (.str [102, 97, 108, 115, 101]))) [] 8,
  .mk (some p37) none (.pick (.t p34) (.c (.bool true)) (.t p36)) [] 9,
  .mk none none (.store 3 (.t p2) (.t p31)) [] 10,
  .mk none none (.store 1 (.t p3) (.t p37)) [] 11] false
def c106_8 : CC := .reg [
  .mk (some p39) none (.bin .eql .num (.t p24) (.c (.int .u8 64))) [] 0,
  .mk (some p38) none (.mv (.t p39)) [] 1] false
def c106_9 : CC := .reg [
  .mk (some p41) none (.mv (.t p4)) [] 0,
  .mk (some p42) none (.call (.c (.fn 149 [])) [(.t p41)]) [] 1,
  .mk (some p40) none (.mv (.t p42)) [] 2,
  .mk (some p43) none (.ext 0 (.t p40)) [] 3,
  .mk (some p44) none (.ext 1 (.t p40)) [] 4,
  .mk (some p5) none (.mv (.t p43)) [] 5,
  .mk (some p6) none (.mv (.t p44)) [] 6] false
def c106_10 : CC := .reg [
  .mk (some p45) none (.mv (.t p5)) [] 0,
  .mk (some p46) none (.build [(.int .i64 0), (.int .i64 0), (.str [])] [(0, 1, (.c (.int .i64 5))), (1, 1, (.t p45))]) [] 1,
  .mk (some p47) none (.mv (.t p6)) [] 2,
  .mk none none (.store 3 (.t p2) (.t p46)) [] 3,
  .mk none none (.store 1 (.t p3) (.t p47)) [] 4] false
def c106_11 : CC := .reg [
  .mk (some p49) none (.bin .eql .num (.t p24) (.c (.int .u8 33))) [] 0,
  .mk (some p48) none (.mv (.t p49)) [] 1] false
def c106_12 : CC := .reg [
  .mk (some p51) none (.mv (.t p4)) [] 0,
  .mk (some p52) none (.call (.c (.fn 149 [])) [(.t p51)]) [] 1,
  .mk (some p50) none (.mv (.t p52)) [] 2,
  .mk (some p53) none (.ext 0 (.t p50)) [] 3,
  .mk (some p54) none (.ext 1 (.t p50)) [] 4,
  .mk (some p7) none (.mv (.t p53)) [] 5,
  .mk (some p8) none (.mv (.t p54)) [] 6] false
def c106_13 : CC := .reg [
  .mk (some p55) none (.mv (.t p7)) [] 0,
  .mk (some p56) none (.build [(.int .i64 0), (.int .i64 0), (.str [])] [(0, 1, (.c (.int .i64 6))), (1, 1, (.t p55))]) [] 1,
  .mk (some p57) none (.mv (.t p8)) [] 2,
  .mk none none (.store 3 (.t p2) (.t p56)) [] 3,
  .mk none none (.store 1 (.t p3) (.t p57)) [] 4] false
def c106_14 : CC := .reg [
  .mk (some p59) none (.bin .eql .num (.t p24) (.c (.int .u8 58))) [] 0,
  .mk (some p58) none (.mv (.t p59)) [] 1] false
def c106_15 : CC := .reg [
  .mk (some p60) none (.mv (.t p4)) [] 0,
  .mk (some p61) none (.build [(.int .i64 0), (.int .i64 0), (.str [])] [(0, 1, (.c (.int .i64 7))), (2, 1, (.t p60))]) [] 1,
  .mk none none (.store 3 (.t p2) (.t p61)) [] 2,
  .mk none none (.store 1 (.t p3) (.c (.bool true))) [] 3] false
def c106_16 : CC := .reg [
  .mk (some p63) none (.bin .eql .num (.t p24) (.c (.int .u8 35))) [] 0,
  .mk (some p62) none (.mv (.t p63)) [] 1] false
def c106_17 : CC := .reg [
  .mk (some p9) none (.alloc 148 [.nilp, .nils]) [] 0] false
def c106_18 : CC := .reg [
  .mk (some p64) none (.mv (.t p4)) [] 0,
  .mk (some p65) none (.call (.c (.fn 150 [])) [(.t p64)]) [] 1] false
def c106_19 : CC := .reg [
  .mk (some p10) none (.mv (.t p66)) [] 0] false
def c106_20 : CC := .reg [
  .mk (some p11) none (.mv (.t p67)) [] 0] false
def c106_21 : CC := .reg [
  .mk (some p68) none (.mv (.t p11)) [] 0,
  .mk (some p69) none (.un .not (.t p68)) [] 1] false
def c106_22 : CC := .reg [
  .mk (some p70) none (.build [(.int .i64 0), (.int .i64 0), (.str [])] []) [] 0,
  .mk none none (.store 3 (.t p2) (.t p70)) [] 1,
  .mk none none (.store 1 (.t p3) (.c (.bool false))) [] 2] false
def c106_23 : CC := .reg [
  .mk (some p71) none (.mv (.t p10)) [] 0,
  .mk (some p72) none (.call (.c (.fn 151 [])) [(.t p9), (.t p71)]) [] 1] false
def c106_24 : CC := .rng (.t p65) [p66, p67] (.seq c106_19 c106_20) (.blk 2 (.seq (.seq c106_21 (.cond (.t p69) (.seq c106_22 .ret) .skip)) c106_23))
def c106_25 : CC := .reg [
  .mk (some p73) none (.call (.c (.fn 86 [])) [(.t p9)]) [] 0,
  .mk (some p74) none (.build [(.int .i64 0), (.int .i64 0), (.str [])] [(0, 1, (.c (.int .i64 4))), (2, 1, (.t p73))]) [] 1,
  .mk none none (.store 3 (.t p2) (.t p74)) [] 2,
  .mk none none (.store 1 (.t p3) (.c (.bool true))) [] 3] false
def c106_26 : CC := .reg [
  .mk (some p76) none (.bin .eql .num (.t p24) (.c (.int .u8 34))) [] 0,
  .mk (some p75) none (.mv (.t p76)) [] 1] false
def c106_27 : CC := .reg [
  .mk (some p78) none (.mv (.t p4)) [] 0,
  .mk (some p79) none (.call (.c (.fn 152 [])) [(.t p78), (.c (.str [34]))]) [] 1,
  .mk (some p77) none (.mv (.t p79)) [] 2,
  .mk (some p80) none (.ext 0 (.t p77)) [] 3,
  .mk (some p81) none (.ext 1 (.t p77)) [] 4,
  .mk (some p12) none (.mv (.t p80)) [] 5,
  .mk (some p13) none (.mv (.t p81)) [] 6] false
def c106_28 : CC := .reg [
  .mk (some p83) none (.mv (.t p12)) [] 0,
  .mk (some p84) none (.call (.c (.fn 153 [])) [(.t p83)]) [] 1,
  .mk (some p82) none (.mv (.t p84)) [] 2,
  .mk (some p85) none (.ext 0 (.t p82)) [] 3,
  .mk (some p86) none (.ext 1 (.t p82)) [] 4,
  .mk (some p14) none (.mv (.t p85)) [] 5,
  .mk (some p15) none (.mv (.t p86)) [] 6] false
def c106_29 : CC := .reg [
  .mk (some p87) none (.mv (.t p14)) [] 0,
  .mk (some p88) none (.build [(.int .i64 0), (.int .i64 0), (.str [])] [(0, 1, (.c (.int .i64 3))), (2, 1, (.t p87))]) [] 1,
  .mk (some p89) none (.mv (.t p13)) [] 2,
  .mk (some p90) none (.mv (.t p89)) [] 3,
  .mk (some p91) (some (p90, true)) (.mv (.t p15)) [] 4,
  .mk (some p92) none (.pick (.t p90) (.t p91) (.c (.bool false))) [] 5,
  .mk none none (.store 3 (.t p2) (.t p88)) [] 6,
  .mk none none (.store 1 (.t p3) (.t p92)) [] 7] false
def c106_30 : CC := .reg [
  .mk (some p94) none (.mv (.t p0)) [] 0,
  .mk (some p95) none (.call (.c (.fn 149 [])) [(.t p94)]) [] 1,
  .mk (some p93) none (.mv (.t p95)) [] 2,
  .mk (some p96) none (.ext 0 (.t p93)) [] 3,
  .mk (some p97) none (.ext 1 (.t p93)) [] 4,
  .mk (some p16) none (.mv (.t p96)) [] 5,
  .mk (some p17) none (.mv (.t p97)) [] 6] false
def c106_31 : CC := .reg [
  .mk (some p98) none (.mv (.t p16)) [] 0,
  .mk (some p99) none (.build [(.int .i64 0), (.int .i64 0), (.str [])] [(0, 1, (.c (.int .i64 1))), (1, 1, (.t p98))]) [] 1,
  .mk (some p100) none (.mv (.t p17)) [] 2,
  .mk none none (.store 3 (.t p2) (.t p99)) [] 3,
  .mk none none (.store 1 (.t p3) (.t p100)) [] 4] false
def F106 : CF := .mk 101 [p0] 7 (.seq c106_0 (.seq (.seq c106_1 (.cond (.t p19) (.seq c106_2 .ret) .skip)) (.seq c106_3 (.seq (.seq c106_4 (.blk 0 (.seq (.seq c106_5 (.cond (.t p25) .skip c106_6)) (.cond (.t p25) (.seq c106_7 .ret) (.seq c106_8 (.cond (.t p38) (.seq c106_9 (.seq c106_10 .ret)) (.seq c106_11 (.cond (.t p48) (.seq c106_12 (.seq c106_13 .ret)) (.seq c106_14 (.cond (.t p58) (.seq c106_15 .ret) (.seq c106_16 (.cond (.t p62) (.seq c106_17 (.seq (.seq c106_18 (.blk 1 c106_24)) (.seq c106_25 .ret))) (.seq c106_26 (.cond (.t p75) (.seq c106_27 (.seq c106_28 (.seq c106_29 .ret))) .skip)))))))))))))) (.seq c106_30 (.seq c106_31 .ret)))))) [.cell p2 3 true, .cell p3 1 false] 1
/- daybook/value.may -/
def c107_0 : CC := .reg [
  .mk (some p1) none (.box 34 (.t p0)) [] 0,
  .mk (some p2) none (.mv (.c (.bool false))) [] 1] false
def c107_1 : CC := .reg [
  .mk (some p3) none (.faddr 0 (.t p1)) [] 0,
  .mk (some p4) none (.load 1 false (.t p3)) [] 1] false
def c107_2 : CC := .reg [
  .mk (some p6) none (.bin .eql .num (.t p4) (.c (.int .i64 2))) [] 0,
  .mk (some p5) none (.mv (.t p6)) [] 1] false
def c107_3 : CC := .reg [
  .mk (some p8) none (.bin .eql .num (.t p4) (.c (.int .i64 1))) [] 0,
  .mk (some p7) none (.mv (.t p8)) [] 1] false
def c107_4 : CC := .reg [
  .mk (some p9) none (.bin .eql .num (.t p4) (.c (.int .i64 6))) [] 0,
  .mk (some p7) none (.mv (.t p9)) [] 1] false
def c107_5 : CC := .reg [
  .mk (some p11) none (.bin .eql .num (.t p4) (.c (.int .i64 5))) [] 0,
  .mk (some p10) none (.mv (.t p11)) [] 1] false
def c107_6 : CC := .reg [
  .mk (some p13) none (.bin .eql .num (.t p4) (.c (.int .i64 3))) [] 0,
  .mk (some p12) none (.mv (.t p13)) [] 1] false
def c107_7 : CC := .reg [
  .mk (some p14) none (.bin .eql .num (.t p4) (.c (.int .i64 4))) [] 0,
  .mk (some p12) none (.mv (.t p14)) [] 1] false
def c107_8 : CC := .reg [
  .mk (some p16) none (.bin .eql .num (.t p4) (.c (.int .i64 7))) [] 0,
  .mk (some p15) none (.mv (.t p16)) [] 1] false
def c107_9 : CC := .reg [
  .mk (some p17) none (.faddr 1 (.t p1)) [] 0,
  .mk (some p18) none (.load 1 false (.t p17)) [] 1,
  .mk (some p19) none (.bin .lss .num (.t p18) (.c (.int .i64 0))) [] 2,
  .mk (some p20) none (.mv (.t p19)) [] 3,
  .mk (some p21) (some (p20, false)) (.faddr 1 (.t p1)) [] 4,
  .mk (some p22) (some (p20, false)) (.load 1 false (.t p21)) [] 5,
  .mk (some p23) (some (p20, false)) (.bin .gtr .num (.t p22) (.c (.int .i64 1))) [] 6,
  .mk (some p24) none (.pick (.t p20) (.c (.bool true)) (.t p23)) [] 7] false
def c107_10 : CC := .reg [
  .mk (some p2) none (.mv (.c (.bool false))) [] 0] false
def c107_11 : CC := .reg [
  .mk (some p25) none (.faddr 2 (.t p1)) [] 0,
  .mk (some p26) none (.load 1 false (.t p25)) [] 1,
  .mk (some p27) none (.bin .eql .num (.t p26) (.c (.str []))) [] 2,
  .mk (some p2) none (.mv (.t p27)) [] 3] false
def c107_12 : CC := .reg [
  .mk (some p28) none (.faddr 2 (.t p1)) [] 0,
  .mk (some p29) none (.load 1 false (.t p28)) [] 1,
  .mk (some p30) none (.bin .eql .num (.t p29) (.c (.str []))) [] 2,
  .mk (some p31) none (.mv (.t p30)) [] 3,
  .mk (some p32) (some (p31, true)) (.faddr 1 (.t p1)) [] 4,
  .mk (some p33) (some (p31, true)) (.load 1 false (.t p32)) [] 5,
  .mk (some p34) (some (p31, true)) (.bin .geq .num (.t p33) (.c (.int .i64 0))) [] 6,
  .mk (some p35) none (.pick (.t p31) (.t p34) (.c (.bool false))) [] 7,
  .mk (some p36) none (.mv (.t p35)) [] 8,
  .mk (some p37) (some (p36, true)) (.faddr 1 (.t p1)) [] 9,
  .mk (some p38) (some (p36, true)) (.load 1 false (.t p37)) [] 10,
  .mk (some p39) (some (p36, true)) (.bin .lss .num (.t p38) (.c (.int .i64 9007199254740992))) [] 11,
  .mk (some p40) none (.pick (.t p36) (.t p39) (.c (.bool false))) [] 12,
  .mk (some p2) none (.mv (.t p40)) [] 13] false
def c107_13 : CC := .reg [
  .mk (some p41) none (.faddr 1 (.t p1)) [] 0,
  .mk (some p42) none (.load 1 false (.t p41)) [] 1,
  .mk (some p43) none (.bin .eql .num (.t p42) (.c (.int .i64 0))) [] 2,
  .mk (some p44) none (.mv (.t p43)) [] 3,
  .mk (some p45) (some (p44, true)) (.faddr 2 (.t p1)) [] 4,
  .mk (some p46) (some (p44, true)) (.load 1 false (.t p45)) [] 5,
  .mk (some p47) (some (p44, true)) (.len 0 (.t p46)) [] 6,
  .mk (some p48) (some (p44, true)) (.bin .leq .num (.t p47) (.c (.int .i64 1000))) [] 7,
  .mk (some p49) none (.pick (.t p44) (.t p48) (.c (.bool false))) [] 8,
  .mk (some p2) none (.mv (.t p49)) [] 9] false
def c107_14 : CC := .reg [
  .mk (some p50) none (.faddr 1 (.t p1)) [] 0,
  .mk (some p51) none (.load 1 false (.t p50)) [] 1,
  .mk (some p52) none (.bin .eql .num (.t p51) (.c (.int .i64 0))) [] 2,
  .mk (some p53) none (.mv (.t p52)) [] 3,
  .mk (some p54) (some (p53, true)) (.faddr 2 (.t p1)) [] 4,
  .mk (some p55) (some (p53, true)) (.load 1 false (.t p54)) [] 5,
  .mk (some p56) (some (p53, true)) (.call (.c (.fn 154 [])) [(.t p55)]) [] 6,
  .mk (some p57) none (.pick (.t p53) (.t p56) (.c (.bool false))) [] 7,
  .mk (some p2) none (.mv (.t p57)) [] 8] false
def c107_15 : CC := .reg [
  .mk (some p2) none (.mv (.c (.bool false))) [] 0] false
def F107 : CF := .mk 58 [p0] 6 (.seq c107_0 (.seq (.seq c107_1 (.blk 0 (.seq (.blk 5 (.seq (.blk 4 (.seq (.blk 3 (.seq (.blk 2 (.seq (.blk 1 (.seq (.seq (.seq c107_2 (.cond (.t p5) (.exit 1) .skip)) (.seq (.seq (.seq c107_3 (.cond (.t p7) .skip c107_4)) (.cond (.t p7) (.exit 2) .skip)) (.seq (.seq c107_5 (.cond (.t p10) (.exit 3) .skip)) (.seq (.seq (.seq c107_6 (.cond (.t p12) .skip c107_7)) (.cond (.t p12) (.exit 4) .skip)) (.seq c107_8 (.cond (.t p15) (.exit 5) .skip)))))) (.exit 0))) (.seq c107_9 (.cond (.t p24) (.seq c107_10 .ret) .skip)))) (.seq (.seq c107_11 .ret) (.exit 0)))) (.seq (.seq c107_12 .ret) (.exit 0)))) (.seq (.seq c107_13 .ret) (.exit 0)))) (.seq (.seq c107_14 .ret) (.exit 0))))) (.seq c107_15 .ret))) [.t p2] 1
/- daybook/text.Named$1 -/
def c108_0 : CC := .reg [
  .mk (some p3) none (.mv (.c (.bool false))) [] 0] false
def c108_1 : CC := .reg [
  .mk (some p4) none (.mv (.t p0)) [] 0,
  .mk (some p5) none (.load 1 false (.t p1)) [] 1,
  .mk (some p6) none (.len 0 (.t p5)) [] 2,
  .mk (some p7) none (.bin .lss .num (.t p4) (.t p6)) [] 3,
  .mk (some p8) none (.mv (.t p7)) [] 4,
  .mk (some p9) (some (p8, true)) (.load 1 false (.t p1)) [] 5,
  .mk (some p10) (some (p8, true)) (.mv (.t p0)) [] 6,
  .mk (some p11) (some (p8, true)) (.index (.t p9) (.t p10)) [] 7,
  .mk (some p12) (some (p8, true)) (.bin .geq .num (.t p11) (.c (.int .u8 48))) [] 8,
  .mk (some p13) none (.pick (.t p8) (.t p12) (.c (.bool false))) [] 9,
  .mk (some p14) none (.mv (.t p13)) [] 10,
  .mk (some p15) (some (p14, true)) (.load 1 false (.t p1)) [] 11,
  .mk (some p16) (some (p14, true)) (.mv (.t p0)) [] 12,
  .mk (some p17) (some (p14, true)) (.index (.t p15) (.t p16)) [] 13,
  .mk (some p18) (some (p14, true)) (.bin .leq .num (.t p17) (.c (.int .u8 57))) [] 14,
  .mk (some p19) none (.pick (.t p14) (.t p18) (.c (.bool false))) [] 15,
  .mk (some p3) none (.mv (.t p19)) [] 16] false
def F108 : CF := .mk 20 [p0, p1] 5 (.seq c108_0 (.seq c108_1 .ret)) [.t p3] 0
/- daybook/shape.is -/
def c112_0 : CC := .reg [
  .mk (some p2) none (.box 36 (.t p0)) [] 0,
  .mk (some p4) none (.mv (.c (.bool false))) [] 1] false
def c112_1 : CC := .reg [
  .mk (some p5) none (.faddr 0 (.t p2)) [] 0,
  .mk (some p6) none (.load 1 false (.t p5)) [] 1,
  .mk (some p7) none (.bin .eql .num (.t p6) (.c (.int .i64 2))) [] 2,
  .mk (some p8) none (.mv (.t p7)) [] 3,
  .mk (some p9) (some (p8, true)) (.faddr 4 (.t p2)) [] 4,
  .mk (some p10) (some (p8, true)) (.load 1 false (.t p9)) [] 5,
  .mk (some p11) (some (p8, true)) (.mv (.t p1)) [] 6,
  .mk (some p12) (some (p8, true)) (.bin .eql .num (.t p10) (.t p11)) [] 7,
  .mk (some p13) none (.pick (.t p8) (.t p12) (.c (.bool false))) [] 8,
  .mk (some p4) none (.mv (.t p13)) [] 9] false
def F112 : CF := .mk 14 [p0, p1] 4 (.seq c112_0 (.seq c112_1 .ret)) [.t p4] 1
/- daybook/shape.headed -/
def c113_0 : CC := .reg [
  .mk (some p1) none (.box 36 (.t p0)) [] 0,
  .mk (some p2) none (.alloc 44 [(.bool false), (.str []), (.bool false), (.int .i64 0), (.bool false), (.int .i64 0), (.int .i64 0), (.str []), (.bool false), .nils, (.int .i64 0)]) [] 1,
  .mk (some p3) none (.mv (.c (.bool false))) [] 2] false
def c113_1 : CC := .reg [
  .mk (some p4) none (.alloc 44 [(.bool false), (.str []), (.bool false), (.int .i64 0), (.bool false), (.int .i64 0), (.int .i64 0), (.str []), (.bool false), .nils, (.int .i64 0)]) [] 0] false
def c113_2 : CC := .reg [
  .mk (some p7) none (.load 8 true (.t p1)) [] 0,
  .mk (some p8) none (.bslice 36 8 [(.int .i64 0), (.int .i64 0), (.int .i64 0), (.str []), (.str []), .nils, (.int .i64 0), (.int .i64 0)] 1 [(0, (.t p7))]) [] 1,
  .mk (some p5) none (.mv (.t p8)) [] 2] false
def c113_3 : CC := .reg [
  .mk (some p9) none (.faddr 0 (.t p1)) [] 0,
  .mk (some p10) none (.load 1 false (.t p9)) [] 1,
  .mk (some p11) none (.bin .eql .num (.t p10) (.c (.int .i64 3))) [] 2] false
def c113_4 : CC := .reg [
  .mk (some p12) none (.faddr 5 (.t p1)) [] 0,
  .mk (some p13) none (.load 1 false (.t p12)) [] 1,
  .mk (some p5) none (.mv (.t p13)) [] 2] false
def c113_5 : CC := .reg [
  .mk (some p14) none (.mv (.t p5)) [] 0,
  .mk (some p15) none (.len 1 (.t p14)) [] 1,
  .mk (some p16) none (.bin .lss .num (.t p15) (.c (.int .i64 2))) [] 2] false
def c113_6 : CC := .reg [
  .mk (some p17) none (.load 11 true (.t p4)) [] 0,
  .mk none none (.store 11 (.t p2) (.t p17)) [] 1,
  .mk (some p3) none (.mv (.c (.bool false))) [] 2] false
def c113_7 : CC := .reg [
  .mk (some p18) none (.mv (.t p5)) [] 0,
  .mk (some p19) none (.iaddr 8 (.t p18) (.c (.int .i64 0))) [] 1,
  .mk (some p20) none (.faddr 0 (.t p19)) [] 2,
  .mk (some p21) none (.load 1 false (.t p20)) [] 3,
  .mk (some p22) none (.bin .neq .num (.t p21) (.c (.int .i64 1))) [] 4,
  .mk (some p23) none (.mv (.t p22)) [] 5,
  .mk (some p24) (some (p23, false)) (.mv (.t p5)) [] 6,
  .mk (some p25) (some (p23, false)) (.iaddr 8 (.t p24) (.c (.int .i64 0))) [] 7,
  .mk (some p26) (some (p23, false)) (.faddr 1 (.t p25)) [] 8,
  .mk (some p27) (some (p23, false)) (.faddr 0 (.t p26)) [] 9,
  .mk (some p28) (some (p23, false)) (.load 1 false (.t p27)) [] 10,
  .mk (some p29) (some (p23, false)) (.bin .neq .num (.t p28) (.c (.int .i64 7))) [] 11,
  .mk (some p30) none (.pick (.t p23) (.c (.bool true)) (.t p29)) [] 12] false
def c113_8 : CC := .reg [
  .mk (some p31) none (.load 11 true (.t p4)) [] 0,
  .mk none none (.store 11 (.t p2) (.t p31)) [] 1,
  .mk (some p3) none (.mv (.c (.bool false))) [] 2] false
def c113_9 : CC := .reg [
  .mk (some p32) none (.mv (.t p5)) [] 0,
  .mk (some p33) none (.iaddr 8 (.t p32) (.c (.int .i64 0))) [] 1,
  .mk (some p34) none (.faddr 1 (.t p33)) [] 2,
  .mk (some p35) none (.faddr 2 (.t p34)) [] 3,
  .mk (some p36) none (.load 1 false (.t p35)) [] 4,
  .mk (some p37) none (.faddr 1 (.t p4)) [] 5,
  .mk none none (.store 1 (.t p37) (.t p36)) [] 6] false
def c113_10 : CC := .reg [
  .mk (some p38) none (.mv (.t p5)) [] 0,
  .mk (some p39) none (.slice 8 (.t p38) (some (.c (.int .i64 1))) none none) [] 1,
  .mk (some p40) none (.call (.c (.fn 157 [])) [(.t p4), (.t p39)]) [] 2,
  .mk (some p6) none (.mv (.t p40)) [] 3] false
def c113_11 : CC := .reg [
  .mk (some p41) none (.load 11 true (.t p4)) [] 0,
  .mk (some p42) none (.mv (.t p6)) [] 1,
  .mk none none (.store 11 (.t p2) (.t p41)) [] 2,
  .mk (some p3) none (.mv (.t p42)) [] 3] false
def F113 : CF := .mk 43 [p0] 6 (.seq c113_0 (.seq c113_1 (.seq c113_2 (.seq (.seq c113_3 (.cond (.t p11) (.seq c113_4 (.seq c113_5 (.cond (.t p16) (.seq c113_6 .ret) .skip))) .skip)) (.seq (.seq c113_7 (.cond (.t p30) (.seq c113_8 .ret) .skip)) (.seq c113_9 (.seq c113_10 (.seq c113_11 .ret)))))))) [.cell p2 11 true, .t p3] 1
/- daybook/shape.whole -/
def c114_0 : CC := .reg [
  .mk (some p1) none (.box 36 (.t p0)) [] 0,
  .mk (some p2) none (.mv (.c (.int .i64 0))) [] 1,
  .mk (some p3) none (.mv (.c (.bool false))) [] 2] false
def c114_1 : CC := .reg [
  .mk (some p4) none (.faddr 1 (.t p1)) [] 0,
  .mk (some p5) none (.faddr 1 (.t p4)) [] 1,
  .mk (some p6) none (.load 1 false (.t p5)) [] 2,
  .mk (some p7) none (.faddr 0 (.t p1)) [] 3,
  .mk (some p8) none (.load 1 false (.t p7)) [] 4,
  .mk (some p9) none (.bin .eql .num (.t p8) (.c (.int .i64 1))) [] 5,
  .mk (some p10) none (.mv (.t p9)) [] 6,
  .mk (some p11) (some (p10, true)) (.faddr 1 (.t p1)) [] 7,
  .mk (some p12) (some (p10, true)) (.faddr 0 (.t p11)) [] 8,
  .mk (some p13) (some (p10, true)) (.load 1 false (.t p12)) [] 9,
  .mk (some p14) (some (p10, true)) (.bin .eql .num (.t p13) (.c (.int .i64 1))) [] 10,
  .mk (some p15) none (.pick (.t p10) (.t p14) (.c (.bool false))) [] 11,
  .mk (some p16) none (.mv (.t p15)) [] 12,
  .mk (some p17) (some (p16, true)) (.faddr 1 (.t p1)) [] 13,
  .mk (some p18) (some (p16, true)) (.faddr 1 (.t p17)) [] 14,
  .mk (some p19) (some (p16, true)) (.load 1 false (.t p18)) [] 15,
  .mk (some p20) (some (p16, true)) (.bin .geq .num (.t p19) (.c (.int .i64 1))) [] 16,
  .mk (some p21) none (.pick (.t p16) (.t p20) (.c (.bool false))) [] 17,
  .mk (some p22) none (.mv (.t p21)) [] 18,
  .mk (some p23) (some (p22, true)) (.faddr 1 (.t p1)) [] 19,
  .mk (some p24) (some (p22, true)) (.faddr 1 (.t p23)) [] 20,
  .mk (some p25) (some (p22, true)) (.load 1 false (.t p24)) [] 21,
  .mk (some p26) (some (p22, true)) (.bin .leq .num (.t p25) (.c (.int .i64 1000))) [] 22,
  .mk (some p27) none (.pick (.t p22) (.t p26) (.c (.bool false))) [] 23,
  .mk (some p2) none (.mv (.t p6)) [] 24,
  .mk (some p3) none (.mv (.t p27)) [] 25] true
def F114 : CF := .mk 28 [p0] 5 (.seq c114_0 (.seq c114_1 .ret)) [.t p2, .t p3] 1
/- daybook/shape.lists$1 -/
def c115_0 : CC := .reg [
  .mk (some p3) none (.box 187 (.t p0)) [] 0] false
def c115_1 : CC := .reg [
  .mk (some p8) none (.load 1 false (.t p3)) [] 0,
  .mk (some p9) none (.load 1 false (.t p1)) [] 1,
  .mk (some p10) none (.load 1 false (.t p2)) [] 2,
  .mk (some p11) none (.call (.t p8) [(.t p9), (.t p10)]) [] 3,
  .mk (some p12) none (.un .not (.t p11)) [] 4,
  .mk (some p13) none (.mv (.t p12)) [] 5,
  .mk (some p14) (some (p13, false)) (.load 1 false (.t p1)) [] 6,
  .mk (some p15) (some (p13, false)) (.bin .gtr .num (.t p14) (.c (.int .i64 20))) [] 7,
  .mk (some p16) none (.pick (.t p13) (.c (.bool true)) (.t p15)) [] 8] false
def c115_2 : CC := .reg [
  .mk (some p17) none (.load 1 false (.t p2)) [] 0,
  .mk (some p18) none (.len 1 (.t p17)) [] 1,
  .mk (some p19) none (.mv (.c (.int .i64 0))) [] 2] false
def c115_3 : CC := .reg [
  .mk (some p20) none (.bin .lss .num (.t p19) (.t p18)) [] 0] false
def c115_4 : CC := .reg [
  .mk (some p21) none (.iaddr 11 (.t p17) (.t p19)) [] 0,
  .mk (some p22) none (.load 11 true (.t p21)) [] 1,
  .mk (some p5) none (.alloc 44 [(.bool false), (.str []), (.bool false), (.int .i64 0), (.bool false), (.int .i64 0), (.int .i64 0), (.str []), (.bool false), .nils, (.int .i64 0)]) [] 2,
  .mk none none (.store 11 (.t p5) (.t p22)) [] 3] false
def c115_5 : CC := .reg [
  .mk (some p23) none (.faddr 9 (.t p5)) [] 0,
  .mk (some p24) none (.load 1 false (.t p23)) [] 1,
  .mk (some p25) none (.load 1 false (.t p1)) [] 2,
  .mk (some p26) none (.bin .add .num (.t p25) (.c (.int .i64 1))) [] 3,
  .mk (some p27) none (.call (.c (.fn 73 [])) [(.t p24), (.t p26)]) [] 4] false
def c115_6 : CC := .reg [
  .mk (some p6) none (.mv (.t p28)) [] 0] false
def c115_7 : CC := .reg [
  .mk (some p7) none (.mv (.t p29)) [] 0] false
def c115_8 : CC := .reg [
  .mk (some p30) none (.faddr 8 (.t p5)) [] 0,
  .mk (some p31) none (.load 1 false (.t p30)) [] 1,
  .mk (some p32) none (.mv (.t p31)) [] 2,
  .mk (some p33) (some (p32, true)) (.load 1 false (.t p3)) [] 3,
  .mk (some p34) (some (p32, true)) (.mv (.t p6)) [] 4,
  .mk (some p35) (some (p32, true)) (.mv (.t p7)) [] 5,
  .mk (some p36) (some (p32, true)) (.call (.t p33) [(.t p34), (.t p35)]) [] 6,
  .mk (some p37) (some (p32, true)) (.un .not (.t p36)) [] 7,
  .mk (some p38) none (.pick (.t p32) (.t p37) (.c (.bool false))) [] 8] false
def c115_9 : CC := .rng (.t p27) [p28, p29] (.seq c115_6 c115_7) (.blk 3 (.seq c115_8 (.cond (.t p38) .ret .skip)))
def c115_10 : CC := .reg [
  .mk (some p39) none (.bin .add .num (.t p19) (.c (.int .i64 1))) [] 0,
  .mk (some p19) none (.mv (.t p39)) [] 1] false
def c115_11 : CC := .loop (.seq c115_3 (.seq (.cond (.t p20) .skip (.exit 0)) (.seq (.blk 1 (.seq c115_4 (.seq c115_5 (.blk 2 c115_9)))) c115_10)))
def F115 : CF := .mk 40 [p0, p1, p2] 6 (.seq c115_0 (.seq (.seq c115_1 (.cond (.t p16) .ret .skip)) (.seq c115_2 (.blk 0 c115_11)))) [] 0
/- daybook/shape.word -/
def c116_0 : CC := .reg [
  .mk (some p2) none (.alloc 34 [(.int .i64 0), (.int .i64 0), (.str [])]) [] 0] false
def c116_1 : CC := .reg [
  .mk (some p3) none (.mv (.t p0)) [] 0,
  .mk (some p4) none (.build [(.int .i64 0), (.int .i64 0), (.str [])] [(0, 1, (.c (.int .i64 7))), (2, 1, (.t p3))]) [] 1,
  .mk none none (.store 3 (.t p2) (.t p4)) [] 2] false
def F116 : CF := .mk 5 [p0] 3 (.seq c116_0 (.seq c116_1 .ret)) [.cell p2 3 true] 1
/- slices.IndexFunc[[]daybook/api.Item,daybook/api.Item] -/
def c117_0 : CC := .reg [
  .mk (some p4) none (.mv (.c (.int .i64 0))) [] 0] false
def c117_1 : CC := .reg [
  .mk (some p6) none (.mv (.t p0)) [] 0,
  .mk (some p7) none (.len 1 (.t p6)) [] 1,
  .mk (some p8) none (.mv (.c (.int .i64 0))) [] 2] false
def c117_2 : CC := .reg [
  .mk (some p9) none (.bin .lss .num (.t p8) (.t p7)) [] 0] false
def c117_3 : CC := .reg [
  .mk (some p10) none (.mv (.t p8)) [] 0,
  .mk (some p5) none (.mv (.t p10)) [] 1] false
def c117_4 : CC := .reg [
  .mk (some p11) none (.mv (.t p1)) [] 0,
  .mk (some p12) none (.mv (.t p0)) [] 1,
  .mk (some p13) none (.mv (.t p5)) [] 2,
  .mk (some p14) none (.iaddr 11 (.t p12) (.t p13)) [] 3,
  .mk (some p15) none (.load 11 true (.t p14)) [] 4,
  .mk (some p16) none (.call (.t p11) [(.t p15)]) [] 5] false
def c117_5 : CC := .reg [
  .mk (some p17) none (.mv (.t p5)) [] 0,
  .mk (some p4) none (.mv (.t p17)) [] 1] false
def c117_6 : CC := .reg [
  .mk (some p18) none (.bin .add .num (.t p8) (.c (.int .i64 1))) [] 0,
  .mk (some p8) none (.mv (.t p18)) [] 1] false
def c117_7 : CC := .loop (.seq c117_2 (.seq (.cond (.t p9) .skip (.exit 0)) (.seq (.blk 1 (.seq c117_3 (.seq c117_4 (.cond (.t p16) (.seq c117_5 .ret) .skip)))) c117_6)))
def c117_8 : CC := .reg [
  .mk (some p4) none (.mv (.c (.int .i64 (-1)))) [] 0] false
def F117 : CF := .mk 19 [p0, p1] 5 (.seq c117_0 (.seq (.seq c117_1 (.blk 0 c117_7)) (.seq c117_8 .ret))) [.t p4] 2
/- daybook/shape.named -/
def c118_0 : CC := .reg [
  .mk (some p2) none (.alloc 36 [(.int .i64 0), (.int .i64 0), (.int .i64 0), (.str []), (.str []), .nils, (.int .i64 0), (.int .i64 0)]) [] 0] false
def c118_1 : CC := .reg [
  .mk (some p3) none (.mv (.t p0)) [] 0,
  .mk (some p4) none (.build [(.int .i64 0), (.int .i64 0), (.int .i64 0), (.str []), (.str []), .nils, (.int .i64 0), (.int .i64 0)] [(0, 1, (.c (.int .i64 2))), (4, 1, (.t p3))]) [] 1,
  .mk none none (.store 8 (.t p2) (.t p4)) [] 2] false
def F118 : CF := .mk 5 [p0] 3 (.seq c118_0 (.seq c118_1 .ret)) [.cell p2 8 true] 1
/- daybook/shape.number -/
def c119_0 : CC := .reg [
  .mk (some p2) none (.alloc 36 [(.int .i64 0), (.int .i64 0), (.int .i64 0), (.str []), (.str []), .nils, (.int .i64 0), (.int .i64 0)]) [] 0] false
def c119_1 : CC := .reg [
  .mk (some p3) none (.mv (.t p0)) [] 0,
  .mk (some p4) none (.build [(.int .i64 0), (.int .i64 0), (.str [])] [(0, 1, (.c (.int .i64 1))), (1, 1, (.t p3))]) [] 1,
  .mk (some p5) none (.call (.c (.fn 158 [])) [(.t p4)]) [] 2,
  .mk none none (.store 8 (.t p2) (.t p5)) [] 3] false
def F119 : CF := .mk 6 [p0] 3 (.seq c119_0 (.seq c119_1 .ret)) [.cell p2 8 true] 1
end Go.EV
