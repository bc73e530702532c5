/- Places by number. -/
import Derived.Test.YtkcabichlinkmaaGreatDoorHM1
namespace Go.EV
def p0 : Pth := .h
def p1 : Pth := .l p0
def p2 : Pth := .r p0
def p3 : Pth := .l p1
def p4 : Pth := .r p1
def p5 : Pth := .l p2
def p6 : Pth := .r p2
def p7 : Pth := .l p3
def p8 : Pth := .r p3
def p9 : Pth := .l p4
def p10 : Pth := .r p4
def p11 : Pth := .l p5
def p12 : Pth := .r p5
def p13 : Pth := .l p6
def p14 : Pth := .r p6
def p15 : Pth := .l p7
def p16 : Pth := .r p7
def p17 : Pth := .l p8
def p18 : Pth := .r p8
def p19 : Pth := .l p9
def p20 : Pth := .r p9
def p21 : Pth := .l p10
def p22 : Pth := .r p10
def p23 : Pth := .l p11
def p24 : Pth := .r p11
def p25 : Pth := .l p12
def p26 : Pth := .r p12
def p27 : Pth := .l p13
def p28 : Pth := .r p13
def p29 : Pth := .l p14
def p30 : Pth := .r p14
def p31 : Pth := .l p15
def p32 : Pth := .r p15
def p33 : Pth := .l p16
def p34 : Pth := .r p16
def p35 : Pth := .l p17
def p36 : Pth := .r p17
def p37 : Pth := .l p18
def p38 : Pth := .r p18
def p39 : Pth := .l p19
def p40 : Pth := .r p19
def p41 : Pth := .l p20
def p42 : Pth := .r p20
def p43 : Pth := .l p21
def p44 : Pth := .r p21
def p45 : Pth := .l p22
def p46 : Pth := .r p22
def p47 : Pth := .l p23
def p48 : Pth := .r p23
def p49 : Pth := .l p24
def p50 : Pth := .r p24
def p51 : Pth := .l p25
def p52 : Pth := .r p25
def p53 : Pth := .l p26
def p54 : Pth := .r p26
def p55 : Pth := .l p27
def p56 : Pth := .r p27
def p57 : Pth := .l p28
def p58 : Pth := .r p28
def p59 : Pth := .l p29
def p60 : Pth := .r p29
def p61 : Pth := .l p30
def p62 : Pth := .r p30
def p63 : Pth := .l p31
def p64 : Pth := .r p31
def p65 : Pth := .l p32
def p66 : Pth := .r p32
def p67 : Pth := .l p33
def p68 : Pth := .r p33
def p69 : Pth := .l p34
def p70 : Pth := .r p34
def p71 : Pth := .l p35
def p72 : Pth := .r p35
def p73 : Pth := .l p36
def p74 : Pth := .r p36
def p75 : Pth := .l p37
def p76 : Pth := .r p37
def p77 : Pth := .l p38
def p78 : Pth := .r p38
def p79 : Pth := .l p39
def p80 : Pth := .r p39
def p81 : Pth := .l p40
def p82 : Pth := .r p40
def p83 : Pth := .l p41
def p84 : Pth := .r p41
def p85 : Pth := .l p42
def p86 : Pth := .r p42
def p87 : Pth := .l p43
def p88 : Pth := .r p43
def p89 : Pth := .l p44
def p90 : Pth := .r p44
def p91 : Pth := .l p45
def p92 : Pth := .r p45
def p93 : Pth := .l p46
def p94 : Pth := .r p46
def p95 : Pth := .l p47
def p96 : Pth := .r p47
def p97 : Pth := .l p48
def p98 : Pth := .r p48
def p99 : Pth := .l p49
def p100 : Pth := .r p49
def p101 : Pth := .l p50
def p102 : Pth := .r p50
def p103 : Pth := .l p51
def p104 : Pth := .r p51
def p105 : Pth := .l p52
def p106 : Pth := .r p52
def p107 : Pth := .l p53
def p108 : Pth := .r p53
def p109 : Pth := .l p54
def p110 : Pth := .r p54
def p111 : Pth := .l p55
def p112 : Pth := .r p55
def p113 : Pth := .l p56
def p114 : Pth := .r p56
def p115 : Pth := .l p57
def p116 : Pth := .r p57
def p117 : Pth := .l p58
def p118 : Pth := .r p58
def p119 : Pth := .l p59
def p120 : Pth := .r p59
def p121 : Pth := .l p60
def p122 : Pth := .r p60
def p123 : Pth := .l p61
def p124 : Pth := .r p61
def p125 : Pth := .l p62
def p126 : Pth := .r p62
def p127 : Pth := .l p63
def p128 : Pth := .r p63
def p129 : Pth := .l p64
def p130 : Pth := .r p64
def p131 : Pth := .l p65
def p132 : Pth := .r p65
def p133 : Pth := .l p66
def p134 : Pth := .r p66
def p135 : Pth := .l p67
def p136 : Pth := .r p67
def p137 : Pth := .l p68
def p138 : Pth := .r p68
def p139 : Pth := .l p69
def p140 : Pth := .r p69
def p141 : Pth := .l p70
def p142 : Pth := .r p70
def p143 : Pth := .l p71
def p144 : Pth := .r p71
def p145 : Pth := .l p72
def p146 : Pth := .r p72
def p147 : Pth := .l p73
def p148 : Pth := .r p73
def p149 : Pth := .l p74
def p150 : Pth := .r p74
def p151 : Pth := .l p75
def p152 : Pth := .r p75
def p153 : Pth := .l p76
def p154 : Pth := .r p76
def p155 : Pth := .l p77
def p156 : Pth := .r p77
def p157 : Pth := .l p78
def p158 : Pth := .r p78
def p159 : Pth := .l p79
def p160 : Pth := .r p79
def p161 : Pth := .l p80
def p162 : Pth := .r p80
def p163 : Pth := .l p81
def p164 : Pth := .r p81
def p165 : Pth := .l p82
def p166 : Pth := .r p82
def p167 : Pth := .l p83
def p168 : Pth := .r p83
def p169 : Pth := .l p84
def p170 : Pth := .r p84
def p171 : Pth := .l p85
def p172 : Pth := .r p85
def p173 : Pth := .l p86
def p174 : Pth := .r p86
def p175 : Pth := .l p87
def p176 : Pth := .r p87
def p177 : Pth := .l p88
def p178 : Pth := .r p88
def p179 : Pth := .l p89
def p180 : Pth := .r p89
def p181 : Pth := .l p90
def p182 : Pth := .r p90
def p183 : Pth := .l p91
def p184 : Pth := .r p91
def p185 : Pth := .l p92
def p186 : Pth := .r p92
def p187 : Pth := .l p93
def p188 : Pth := .r p93
def p189 : Pth := .l p94
def p190 : Pth := .r p94
def p191 : Pth := .l p95
def p192 : Pth := .r p95
def p193 : Pth := .l p96
def p194 : Pth := .r p96
def p195 : Pth := .l p97
def p196 : Pth := .r p97
def p197 : Pth := .l p98
def p198 : Pth := .r p98
def p199 : Pth := .l p99
def p200 : Pth := .r p99
def p201 : Pth := .l p100
def p202 : Pth := .r p100
def p203 : Pth := .l p101
def p204 : Pth := .r p101
def p205 : Pth := .l p102
def p206 : Pth := .r p102
def p207 : Pth := .l p103
def p208 : Pth := .r p103
def p209 : Pth := .l p104
def p210 : Pth := .r p104
def p211 : Pth := .l p105
end Go.EV

/- Compiled functions, by program. -/
namespace Go.EV
/- daybook/daybooklaw19.ShapeNames -/
def c6_0 : CC := .reg [
  .mk (some p0) none (.mv (.c (.bool false))) [] 0] false
def c6_1 : CC := .reg [
  .mk (some p12) none (.call (.c (.fn 11 [])) [(.c (.str [91, 123, 58, 97, 47, 107, 105, 100, 32, 91, 58, 97, 47, 110, 93, 125, 32, 123, 40, 58, 97, 47, 117, 112, 32, 98, 97, 99, 107, 41, 32, 46, 46, 46, 125, 93]))]) [] 0,
  .mk (some p11) none (.mv (.t p12)) [] 1,
  .mk (some p13) none (.ext 0 (.t p11)) [] 2,
  .mk (some p14) none (.ext 1 (.t p11)) [] 3,
  .mk (some p1) none (.mv (.t p13)) [] 4,
  .mk (some p2) none (.mv (.t p14)) [] 5] false
def c6_2 : CC := .reg [
  .mk (some p16) none (.call (.c (.fn 11 [])) [(.c (.str [91, 40, 58, 97, 47, 98, 32, 100, 101, 102, 97, 117, 108, 116, 32, 55, 41, 93]))]) [] 0,
  .mk (some p15) none (.mv (.t p16)) [] 1,
  .mk (some p17) none (.ext 0 (.t p15)) [] 2,
  .mk (some p18) none (.ext 1 (.t p15)) [] 3,
  .mk (some p3) none (.mv (.t p17)) [] 4,
  .mk (some p4) none (.mv (.t p18)) [] 5] false
def c6_3 : CC := .reg [
  .mk (some p20) none (.call (.c (.fn 11 [])) [(.c (.str [91]))]) [] 0,
  .mk (some p19) none (.mv (.t p20)) [] 1,
  .mk (some p21) none (.ext 0 (.t p19)) [] 2,
  .mk (some p22) none (.ext 1 (.t p19)) [] 3,
  .mk (some p5) none (.mv (.t p21)) [] 4,
  .mk (some p6) none (.mv (.t p22)) [] 5] false
def c6_4 : CC := .reg [
  .mk (some p24) none (.build [(.bool false), (.str []), (.bool false), (.int .i64 0), (.bool false), (.int .i64 0), (.int .i64 0), (.str []), (.bool false), .nils, (.int .i64 0)] [(1, 1, (.c (.str [97, 47, 98]))), (2, 1, (.c (.bool true))), (3, 1, (.c (.int .i64 2))), (10, 1, (.c (.int .i64 5)))]) [] 0,
  .mk (some p25) none (.build [(.bool false), (.str []), (.bool false), (.int .i64 0), (.bool false), (.int .i64 0), (.int .i64 0), (.str []), (.bool false), .nils, (.int .i64 0)] [(0, 1, (.c (.bool true)))]) [] 1,
  .mk (some p26) none (.build [(.bool false), (.str []), (.bool false), (.int .i64 0), (.bool false), (.int .i64 0), (.int .i64 0), (.str []), (.bool false), .nils, (.int .i64 0)] [(1, 1, (.c (.str [97, 47, 98]))), (8, 1, (.c (.bool true)))]) [] 2,
  .mk (some p27) none (.bslice 44 11 [(.bool false), (.str []), (.bool false), (.int .i64 0), (.bool false), (.int .i64 0), (.int .i64 0), (.str []), (.bool false), .nils, (.int .i64 0)] 3 [(0, (.t p24)), (1, (.t p25)), (2, (.t p26))]) [] 3,
  .mk (some p28) none (.call (.c (.fn 22 [])) [(.t p27)]) [] 4,
  .mk (some p23) none (.mv (.t p28)) [] 5,
  .mk (some p29) none (.ext 0 (.t p23)) [] 6,
  .mk (some p30) none (.ext 1 (.t p23)) [] 7,
  .mk (some p7) none (.mv (.t p29)) [] 8,
  .mk (some p8) none (.mv (.t p30)) [] 9] false
def c6_5 : CC := .reg [
  .mk (some p31) none (.mv (.t p2)) [] 0,
  .mk (some p32) none (.bin .eql .num (.t p31) (.c (.int .i64 0))) [] 1,
  .mk (some p33) none (.mv (.t p32)) [] 2,
  .mk (some p34) (some (p33, true)) (.mv (.t p1)) [] 3,
  .mk (some p35) (some (p33, true)) (.len 1 (.t p34)) [] 4,
  .mk (some p36) (some (p33, true)) (.bin .eql .num (.t p35) (.c (.int .i64 2))) [] 5,
  .mk (some p37) none (.pick (.t p33) (.t p36) (.c (.bool false))) [] 6,
  .mk (some p38) none (.mv (.t p37)) [] 7,
  .mk (some p39) (some (p38, true)) (.mv (.t p1)) [] 8,
  .mk (some p40) (some (p38, true)) (.iaddr 11 (.t p39) (.c (.int .i64 0))) [] 9,
  .mk (some p41) (some (p38, true)) (.faddr 8 (.t p40)) [] 10,
  .mk (some p42) (some (p38, true)) (.load 1 false (.t p41)) [] 11,
  .mk (some p43) none (.pick (.t p38) (.t p42) (.c (.bool false))) [] 12,
  .mk (some p44) none (.mv (.t p43)) [] 13,
  .mk (some p45) (some (p44, true)) (.mv (.t p1)) [] 14,
  .mk (some p46) (some (p44, true)) (.iaddr 11 (.t p45) (.c (.int .i64 0))) [] 15,
  .mk (some p47) (some (p44, true)) (.faddr 9 (.t p46)) [] 16,
  .mk (some p48) (some (p44, true)) (.load 1 false (.t p47)) [] 17,
  .mk (some p49) (some (p44, true)) (.len 1 (.t p48)) [] 18,
  .mk (some p50) (some (p44, true)) (.bin .eql .num (.t p49) (.c (.int .i64 1))) [] 19,
  .mk (some p51) none (.pick (.t p44) (.t p50) (.c (.bool false))) [] 20,
  .mk (some p52) none (.mv (.t p51)) [] 21,
  .mk (some p53) (some (p52, true)) (.mv (.t p1)) [] 22,
  .mk (some p54) (some (p52, true)) (.iaddr 11 (.t p53) (.c (.int .i64 1))) [] 23,
  .mk (some p55) (some (p52, true)) (.faddr 2 (.t p54)) [] 24,
  .mk (some p56) (some (p52, true)) (.load 1 false (.t p55)) [] 25,
  .mk (some p57) none (.pick (.t p52) (.t p56) (.c (.bool false))) [] 26,
  .mk (some p58) none (.mv (.t p57)) [] 27,
  .mk (some p59) (some (p58, true)) (.mv (.t p1)) [] 28,
  .mk (some p60) (some (p58, true)) (.iaddr 11 (.t p59) (.c (.int .i64 1))) [] 29,
  .mk (some p61) (some (p58, true)) (.faddr 10 (.t p60)) [] 30,
  .mk (some p62) (some (p58, true)) (.load 1 false (.t p61)) [] 31,
  .mk (some p63) (some (p58, true)) (.bin .eql .num (.t p62) (.c (.int .i64 (-1)))) [] 32,
  .mk (some p64) none (.pick (.t p58) (.t p63) (.c (.bool false))) [] 33,
  .mk (some p65) none (.mv (.t p64)) [] 34,
  .mk (some p66) (some (p65, true)) (.mv (.t p4)) [] 35,
  .mk (some p67) (some (p65, true)) (.bin .eql .num (.t p66) (.c (.int .i64 0))) [] 36,
  .mk (some p68) none (.pick (.t p65) (.t p67) (.c (.bool false))) [] 37,
  .mk (some p69) none (.mv (.t p68)) [] 38,
  .mk (some p70) (some (p69, true)) (.mv (.t p3)) [] 39,
  .mk (some p71) (some (p69, true)) (.len 1 (.t p70)) [] 40,
  .mk (some p72) (some (p69, true)) (.bin .eql .num (.t p71) (.c (.int .i64 1))) [] 41,
  .mk (some p73) none (.pick (.t p69) (.t p72) (.c (.bool false))) [] 42,
  .mk (some p74) none (.mv (.t p73)) [] 43,
  .mk (some p75) (some (p74, true)) (.mv (.t p3)) [] 44,
  .mk (some p76) (some (p74, true)) (.iaddr 11 (.t p75) (.c (.int .i64 0))) [] 45,
  .mk (some p77) (some (p74, true)) (.faddr 4 (.t p76)) [] 46,
  .mk (some p78) (some (p74, true)) (.load 1 false (.t p77)) [] 47,
  .mk (some p79) none (.pick (.t p74) (.t p78) (.c (.bool false))) [] 48,
  .mk (some p80) none (.mv (.t p79)) [] 49,
  .mk (some p81) (some (p80, true)) (.mv (.t p3)) [] 50,
  .mk (some p82) (some (p80, true)) (.iaddr 11 (.t p81) (.c (.int .i64 0))) [] 51,
  .mk (some p83) (some (p80, true)) (.faddr 5 (.t p82)) [] 52,
  .mk (some p84) (some (p80, true)) (.load 3 true (.t p83)) [] 53,
  .mk (some p85) (some (p80, true)) (.build [(.int .i64 0), (.int .i64 0), (.str [])] [(0, 1, (.c (.int .i64 1))), (1, 1, (.c (.int .i64 7)))]) [] 54,
  .mk (some p86) (some (p80, true)) (.bin .eql (.cells [.i, .i, .s]) (.t p84) (.t p85)) [] 55,
  .mk (some p87) none (.pick (.t p80) (.t p86) (.c (.bool false))) [] 56,
  .mk (some p88) none (.mv (.t p87)) [] 57,
  .mk (some p89) (some (p88, true)) (.mv (.t p6)) [] 58,
  .mk (some p90) (some (p88, true)) (.bin .eql .num (.t p89) (.c (.int .i64 50))) [] 59,
  .mk (some p91) none (.pick (.t p88) (.t p90) (.c (.bool false))) [] 60,
  .mk (some p92) none (.mv (.t p91)) [] 61,
  .mk (some p93) (some (p92, true)) (.mv (.t p8)) [] 62,
  .mk (some p94) (some (p92, true)) (.bin .eql .num (.t p93) (.c (.int .i64 0))) [] 63,
  .mk (some p95) none (.pick (.t p92) (.t p94) (.c (.bool false))) [] 64,
  .mk (some p96) none (.mv (.t p95)) [] 65,
  .mk (some p97) (some (p96, true)) (.mv (.t p7)) [] 66,
  .mk (some p98) (some (p96, true)) (.bin .eql .num (.t p97) (.c (.str [91, 123, 40, 58, 97, 47, 98, 32, 98, 97, 99, 107, 32, 108, 105, 109, 105, 116, 32, 50, 41, 32, 53, 125, 32, 42, 32, 123, 58, 97, 47, 98, 32, 91, 93, 125, 93]))) [] 67,
  .mk (some p99) none (.pick (.t p96) (.t p98) (.c (.bool false))) [] 68,
  .mk (some p9) none (.mv (.t p99)) [] 69] false
def c6_6 : CC := .reg [
  .mk (some p100) none (.call (.c (.fn 23 [])) [(.c (.str [91, 58, 97, 47, 98, 32, 58, 97, 47, 98, 93]))]) [] 0,
  .mk (some p101) none (.call (.c (.fn 23 [])) [(.c (.str [91, 120, 93]))]) [] 1,
  .mk (some p102) none (.bin .add .num (.t p100) (.t p101)) [] 2,
  .mk (some p103) none (.call (.c (.fn 23 [])) [(.c (.str [58, 97, 47, 98]))]) [] 3,
  .mk (some p104) none (.bin .add .num (.t p102) (.t p103)) [] 4,
  .mk (some p105) none (.call (.c (.fn 23 [])) [(.c (.str [91, 123, 58, 97, 47, 98, 32, 48, 125, 93]))]) [] 5,
  .mk (some p106) none (.bin .add .num (.t p104) (.t p105)) [] 6,
  .mk (some p107) none (.call (.c (.fn 23 [])) [(.c (.str [91, 40, 58, 97, 47, 98, 41, 93]))]) [] 7,
  .mk (some p108) none (.bin .add .num (.t p106) (.t p107)) [] 8,
  .mk (some p109) none (.call (.c (.fn 23 [])) [(.c (.str [91, 123, 58, 97, 47, 98, 32, 49, 48, 49, 125, 93]))]) [] 9,
  .mk (some p110) none (.bin .add .num (.t p108) (.t p109)) [] 10,
  .mk (some p111) none (.call (.c (.fn 23 [])) [(.c (.str [91, 40, 58, 97, 47, 98, 32, 108, 105, 109, 105, 116, 32, 51, 32, 98, 97, 99, 107, 41, 93]))]) [] 11,
  .mk (some p112) none (.bin .add .num (.t p110) (.t p111)) [] 12,
  .mk (some p113) none (.call (.c (.fn 23 [])) [(.c (.str []))]) [] 13,
  .mk (some p114) none (.bin .add .num (.t p112) (.t p113)) [] 14,
  .mk (some p115) none (.call (.c (.fn 23 [])) [(.c (.str [91, 93, 32, 91, 93]))]) [] 15,
  .mk (some p116) none (.bin .add .num (.t p114) (.t p115)) [] 16,
  .mk (some p117) none (.call (.c (.fn 23 [])) [(.c (.str [91, 123, 40, 58, 97, 47, 98, 32, 100, 101, 102, 97, 117, 108, 116, 32, 55, 41, 32, 51, 125, 93]))]) [] 17,
  .mk (some p118) none (.bin .add .num (.t p116) (.t p117)) [] 18,
  .mk (some p10) none (.mv (.t p118)) [] 19] false
def c6_7 : CC := .reg [
  .mk (some p119) none (.mv (.c (.bool true))) [] 0,
  .mk (some p120) (some (p119, true)) (.call (.c (.fn 17 [])) []) [] 1,
  .mk (some p121) none (.pick (.t p119) (.t p120) (.c (.bool false))) [] 2,
  .mk (some p122) none (.mv (.t p121)) [] 3,
  .mk (some p123) (some (p122, true)) (.mv (.t p9)) [] 4,
  .mk (some p124) none (.pick (.t p122) (.t p123) (.c (.bool false))) [] 5,
  .mk (some p125) none (.mv (.t p124)) [] 6,
  .mk (some p126) (some (p125, true)) (.mv (.t p10)) [] 7,
  .mk (some p127) (some (p125, true)) (.bin .eql .num (.t p126) (.c (.int .i64 10))) [] 8,
  .mk (some p128) none (.pick (.t p125) (.t p127) (.c (.bool false))) [] 9,
  .mk (some p129) none (.mv (.t p128)) [] 10,
  .mk (some p130) (some (p129, true)) (.build [(.bool false), (.str []), (.bool false), (.int .i64 0), (.bool false), (.int .i64 0), (.int .i64 0), (.str []), (.bool false), .nils, (.int .i64 0)] []) [] 11,
  .mk (some p131) (some (p129, true)) (.bslice 44 11 [(.bool false), (.str []), (.bool false), (.int .i64 0), (.bool false), (.int .i64 0), (.int .i64 0), (.str []), (.bool false), .nils, (.int .i64 0)] 1 [(0, (.t p130))]) [] 12,
  .mk (some p132) (some (p129, true)) (.call (.c (.fn 19 [])) [(.t p131)]) [] 13,
  .mk (some p133) (some (p129, true)) (.bin .eql .num (.t p132) (.c (.int .i64 190))) [] 14,
  .mk (some p134) none (.pick (.t p129) (.t p133) (.c (.bool false))) [] 15,
  .mk (some p135) none (.mv (.t p134)) [] 16,
  .mk (some p136) (some (p135, true)) (.call (.c (.fn 19 [])) [(.c .nils)]) [] 17,
  .mk (some p137) (some (p135, true)) (.bin .eql .num (.t p136) (.c (.int .i64 0))) [] 18,
  .mk (some p138) none (.pick (.t p135) (.t p137) (.c (.bool false))) [] 19,
  .mk (some p0) none (.mv (.t p138)) [] 20] false
def F6 : CF := .mk 139 [] 8 (.seq c6_0 (.seq c6_1 (.seq c6_2 (.seq c6_3 (.seq c6_4 (.seq c6_5 (.seq c6_6 (.seq c6_7 .ret)))))))) [.t p0] 1
/- daybook/shape.Parse -/
def c11_0 : CC := .reg [
  .mk (some p2) none (.mv (.c .nils)) [] 0,
  .mk (some p3) none (.mv (.c (.int .i64 0))) [] 1] false
def c11_1 : CC := .reg [
  .mk (some p9) none (.mv (.t p0)) [] 0,
  .mk (some p10) none (.call (.c (.fn 38 [])) [(.t p9)]) [] 1,
  .mk (some p8) none (.mv (.t p10)) [] 2,
  .mk (some p11) none (.ext 0 (.t p8)) [] 3,
  .mk (some p12) none (.ext 1 (.t p8)) [] 4,
  .mk (some p13) none (.ext 2 (.t p8)) [] 5,
  .mk (some p14) none (.ext 3 (.t p8)) [] 6,
  .mk (some p4) none (.mv (.t p11)) [] 7,
  .mk (some p5) none (.mv (.t p12)) [] 8,
  .mk (some p6) none (.mv (.t p13)) [] 9,
  .mk (some p7) none (.mv (.t p14)) [] 10] false
def c11_2 : CC := .reg [
  .mk (some p15) none (.mv (.t p7)) [] 0,
  .mk (some p16) none (.bin .neq .num (.t p15) (.c (.int .i64 0))) [] 1] false
def c11_3 : CC := .reg [
  .mk (some p17) none (.mv (.t p7)) [] 0,
  .mk (some p2) none (.mv (.c .nils)) [] 1,
  .mk (some p3) none (.mv (.t p17)) [] 2] false
def c11_4 : CC := .reg [
  .mk (some p18) none (.mv (.t p4)) [] 0,
  .mk (some p19) none (.len 1 (.t p18)) [] 1,
  .mk (some p20) none (.bin .neq .num (.t p19) (.c (.int .i64 1))) [] 2] false
def c11_5 : CC := .reg [
  .mk (some p2) none (.mv (.c .nils)) [] 0,
  .mk (some p3) none (.mv (.c (.int .i64 190))) [] 1] false
def c11_6 : CC := .reg [
  .mk (some p21) none (.mv (.t p4)) [] 0,
  .mk (some p22) none (.iaddr 8 (.t p21) (.c (.int .i64 0))) [] 1,
  .mk (some p23) none (.load 8 true (.t p22)) [] 2,
  .mk (some p24) none (.call (.c (.fn 15 [])) [(.t p23)]) [] 3,
  .mk (some p25) none (.ext 0 (.t p24)) [] 4,
  .mk (some p26) none (.ext 1 (.t p24)) [] 5,
  .mk (some p2) none (.mv (.t p25)) [] 6,
  .mk (some p3) none (.mv (.t p26)) [] 7] false
def F11 : CF := .mk 27 [p0] 5 (.seq c11_0 (.seq c11_1 (.seq (.seq c11_2 (.cond (.t p16) (.seq c11_3 .ret) .skip)) (.seq (.seq c11_4 (.cond (.t p20) (.seq c11_5 .ret) .skip)) (.seq c11_6 .ret))))) [.t p2, .t p3] 1
/- daybook/shape.Read -/
def c15_0 : CC := .reg [
  .mk (some p1) none (.box 36 (.t p0)) [] 0,
  .mk (some p2) none (.mv (.c .nils)) [] 1,
  .mk (some p3) none (.mv (.c (.int .i64 0))) [] 2] false
def c15_1 : CC := .reg [
  .mk (some p7) none (.load 8 true (.t p1)) [] 0,
  .mk (some p8) none (.call (.c (.fn 41 [])) [(.t p7), (.c (.int .i64 1))]) [] 1,
  .mk (some p6) none (.mv (.t p8)) [] 2,
  .mk (some p9) none (.ext 0 (.t p6)) [] 3,
  .mk (some p10) none (.ext 1 (.t p6)) [] 4,
  .mk (some p4) none (.mv (.t p9)) [] 5,
  .mk (some p5) none (.mv (.t p10)) [] 6] false
def c15_2 : CC := .reg [
  .mk (some p11) none (.mv (.t p5)) [] 0,
  .mk (some p12) none (.un .not (.t p11)) [] 1,
  .mk (some p13) none (.mv (.t p12)) [] 2,
  .mk (some p14) (some (p13, false)) (.mv (.t p4)) [] 3,
  .mk (some p15) (some (p13, false)) (.call (.c (.fn 42 [])) [(.t p14)]) [] 4,
  .mk (some p16) (some (p13, false)) (.un .not (.t p15)) [] 5,
  .mk (some p17) none (.pick (.t p13) (.c (.bool true)) (.t p16)) [] 6] false
def c15_3 : CC := .reg [
  .mk (some p2) none (.mv (.c .nils)) [] 0,
  .mk (some p3) none (.mv (.c (.int .i64 190))) [] 1] false
def c15_4 : CC := .reg [
  .mk (some p18) none (.load 8 true (.t p1)) [2] 0,
  .mk (some p19) none (.mv (.t p4)) [] 1,
  .mk (some p20) none (.call (.c (.fn 44 [])) [(.t p19)]) [] 2,
  .mk (some p21) none (.call (.c (.fn 43 [])) [(.t p18), (.t p20)]) [] 3,
  .mk (some p22) none (.un .not (.t p21)) [] 4] true
def c15_5 : CC := .reg [
  .mk (some p2) none (.mv (.c .nils)) [] 0,
  .mk (some p3) none (.mv (.c (.int .i64 190))) [] 1] false
def c15_6 : CC := .reg [
  .mk (some p23) none (.mv (.t p4)) [] 0,
  .mk (some p2) none (.mv (.t p23)) [] 1,
  .mk (some p3) none (.mv (.c (.int .i64 0))) [] 2] false
def F15 : CF := .mk 24 [p0] 5 (.seq c15_0 (.seq c15_1 (.seq (.seq c15_2 (.cond (.t p17) (.seq c15_3 .ret) .skip)) (.seq (.seq c15_4 (.cond (.t p22) (.seq c15_5 .ret) .skip)) (.seq c15_6 .ret))))) [.t p2, .t p3] 1
/- daybook/daybooklaw19.alive -/
def c17_0 : CC := .reg [
  .mk (some p0) none (.mv (.c (.bool false))) [] 0] false
def c17_1 : CC := .reg [
  .mk (some p4) none (.call (.c (.fn 11 [])) [(.c (.str [91, 42, 32, 58, 97, 47, 98, 32, 40, 58, 97, 47, 99, 32, 108, 105, 109, 105, 116, 32, 51, 41, 32, 40, 58, 97, 47, 100, 32, 98, 97, 99, 107, 41, 93]))]) [] 0,
  .mk (some p3) none (.mv (.t p4)) [] 1,
  .mk (some p5) none (.ext 0 (.t p3)) [] 2,
  .mk (some p6) none (.ext 1 (.t p3)) [] 3,
  .mk (some p1) none (.mv (.t p5)) [] 4,
  .mk (some p2) none (.mv (.t p6)) [] 5] false
def c17_2 : CC := .reg [
  .mk (some p7) none (.mv (.t p2)) [] 0,
  .mk (some p8) none (.bin .eql .num (.t p7) (.c (.int .i64 0))) [] 1,
  .mk (some p9) none (.mv (.t p8)) [] 2,
  .mk (some p10) (some (p9, true)) (.mv (.t p1)) [] 3,
  .mk (some p11) (some (p9, true)) (.len 1 (.t p10)) [] 4,
  .mk (some p12) (some (p9, true)) (.bin .eql .num (.t p11) (.c (.int .i64 4))) [] 5,
  .mk (some p13) none (.pick (.t p9) (.t p12) (.c (.bool false))) [] 6,
  .mk (some p14) none (.mv (.t p13)) [] 7,
  .mk (some p15) (some (p14, true)) (.mv (.t p1)) [] 8,
  .mk (some p16) (some (p14, true)) (.iaddr 11 (.t p15) (.c (.int .i64 0))) [] 9,
  .mk (some p17) (some (p14, true)) (.faddr 0 (.t p16)) [] 10,
  .mk (some p18) (some (p14, true)) (.load 1 false (.t p17)) [] 11,
  .mk (some p19) none (.pick (.t p14) (.t p18) (.c (.bool false))) [] 12,
  .mk (some p20) none (.mv (.t p19)) [] 13,
  .mk (some p21) (some (p20, true)) (.mv (.t p1)) [] 14,
  .mk (some p22) (some (p20, true)) (.iaddr 11 (.t p21) (.c (.int .i64 1))) [] 15,
  .mk (some p23) (some (p20, true)) (.faddr 1 (.t p22)) [] 16,
  .mk (some p24) (some (p20, true)) (.load 1 false (.t p23)) [] 17,
  .mk (some p25) (some (p20, true)) (.bin .eql .num (.t p24) (.c (.str [97, 47, 98]))) [] 18,
  .mk (some p26) none (.pick (.t p20) (.t p25) (.c (.bool false))) [] 19,
  .mk (some p27) none (.mv (.t p26)) [] 20,
  .mk (some p28) (some (p27, true)) (.mv (.t p1)) [] 21,
  .mk (some p29) (some (p27, true)) (.iaddr 11 (.t p28) (.c (.int .i64 2))) [] 22,
  .mk (some p30) (some (p27, true)) (.faddr 3 (.t p29)) [] 23,
  .mk (some p31) (some (p27, true)) (.load 1 false (.t p30)) [] 24,
  .mk (some p32) (some (p27, true)) (.bin .eql .num (.t p31) (.c (.int .i64 3))) [] 25,
  .mk (some p33) none (.pick (.t p27) (.t p32) (.c (.bool false))) [] 26,
  .mk (some p34) none (.mv (.t p33)) [] 27,
  .mk (some p35) (some (p34, true)) (.mv (.t p1)) [] 28,
  .mk (some p36) (some (p34, true)) (.iaddr 11 (.t p35) (.c (.int .i64 3))) [] 29,
  .mk (some p37) (some (p34, true)) (.faddr 2 (.t p36)) [] 30,
  .mk (some p38) (some (p34, true)) (.load 1 false (.t p37)) [] 31,
  .mk (some p39) none (.pick (.t p34) (.t p38) (.c (.bool false))) [] 32,
  .mk (some p0) none (.mv (.t p39)) [] 33] false
def F17 : CF := .mk 40 [] 6 (.seq c17_0 (.seq c17_1 (.seq c17_2 .ret))) [.t p0] 1
/- daybook/shape.Check -/
def c19_0 : CC := .reg [
  .mk (some p2) none (.mv (.c (.int .i64 0))) [] 0] false
def c19_1 : CC := .reg [
  .mk (some p3) none (.mv (.t p0)) [] 0,
  .mk (some p4) none (.call (.c (.fn 42 [])) [(.t p3)]) [] 1,
  .mk (some p5) none (.un .not (.t p4)) [] 2] false
def c19_2 : CC := .reg [
  .mk (some p2) none (.mv (.c (.int .i64 190))) [] 0] false
def c19_3 : CC := .reg [
  .mk (some p2) none (.mv (.c (.int .i64 0))) [] 0] false
def F19 : CF := .mk 6 [p0] 3 (.seq c19_0 (.seq (.seq c19_1 (.cond (.t p5) (.seq c19_2 .ret) .skip)) (.seq c19_3 .ret))) [.t p2] 1
/- daybook/shape.Write -/
def c21_0 : CC := .reg [
  .mk (some p2) none (.alloc 36 [(.int .i64 0), (.int .i64 0), (.int .i64 0), (.str []), (.str []), .nils, (.int .i64 0), (.int .i64 0)]) [] 0,
  .mk (some p3) none (.mv (.c (.int .i64 0))) [] 1] false
def c21_1 : CC := .reg [
  .mk (some p4) none (.mv (.t p0)) [] 0,
  .mk (some p5) none (.call (.c (.fn 42 [])) [(.t p4)]) [] 1,
  .mk (some p6) none (.un .not (.t p5)) [] 2] false
def c21_2 : CC := .reg [
  .mk (some p7) none (.build [(.int .i64 0), (.int .i64 0), (.int .i64 0), (.str []), (.str []), .nils, (.int .i64 0), (.int .i64 0)] []) [] 0,
  .mk none none (.store 8 (.t p2) (.t p7)) [] 1,
  .mk (some p3) none (.mv (.c (.int .i64 190))) [] 2] false
def c21_3 : CC := .reg [
  .mk (some p8) none (.mv (.t p0)) [] 0,
  .mk (some p9) none (.call (.c (.fn 44 [])) [(.t p8)]) [] 1,
  .mk none none (.store 8 (.t p2) (.t p9)) [] 2,
  .mk (some p3) none (.mv (.c (.int .i64 0))) [] 3] false
def F21 : CF := .mk 10 [p0] 4 (.seq c21_0 (.seq (.seq c21_1 (.cond (.t p6) (.seq c21_2 .ret) .skip)) (.seq c21_3 .ret))) [.cell p2 8 true, .t p3] 1
/- daybook/shape.Print -/
def c22_0 : CC := .reg [
  .mk (some p2) none (.mv (.c (.str []))) [] 0,
  .mk (some p3) none (.mv (.c (.int .i64 0))) [] 1] false
def c22_1 : CC := .reg [
  .mk (some p8) none (.mv (.t p0)) [] 0,
  .mk (some p9) none (.call (.c (.fn 21 [])) [(.t p8)]) [] 1,
  .mk (some p7) none (.mv (.t p9)) [] 2,
  .mk (some p10) none (.ext 0 (.t p7)) [] 3,
  .mk (some p11) none (.ext 1 (.t p7)) [] 4,
  .mk (some p4) none (.alloc 36 [(.int .i64 0), (.int .i64 0), (.int .i64 0), (.str []), (.str []), .nils, (.int .i64 0), (.int .i64 0)]) [] 5,
  .mk none none (.store 8 (.t p4) (.t p10)) [] 6,
  .mk (some p5) none (.mv (.t p11)) [] 7] false
def c22_2 : CC := .reg [
  .mk (some p12) none (.mv (.t p5)) [] 0,
  .mk (some p13) none (.bin .neq .num (.t p12) (.c (.int .i64 0))) [] 1] false
def c22_3 : CC := .reg [
  .mk (some p14) none (.mv (.t p5)) [] 0,
  .mk (some p2) none (.mv (.c (.str []))) [] 1,
  .mk (some p3) none (.mv (.t p14)) [] 2] false
def c22_4 : CC := .reg [
  .mk (some p16) none (.load 8 true (.t p4)) [] 0,
  .mk (some p17) none (.bslice 36 8 [(.int .i64 0), (.int .i64 0), (.int .i64 0), (.str []), (.str []), .nils, (.int .i64 0), (.int .i64 0)] 1 [(0, (.t p16))]) [] 1,
  .mk (some p18) none (.call (.c (.fn 51 [])) [(.t p17)]) [] 2,
  .mk (some p15) none (.mv (.t p18)) [] 3,
  .mk (some p19) none (.ext 0 (.t p15)) [] 4,
  .mk (some p20) none (.ext 1 (.t p15)) [] 5,
  .mk (some p6) none (.mv (.t p19)) [] 6,
  .mk (some p5) none (.mv (.t p20)) [] 7] false
def c22_5 : CC := .reg [
  .mk (some p21) none (.mv (.t p5)) [] 0,
  .mk (some p22) none (.bin .neq .num (.t p21) (.c (.int .i64 0))) [] 1] false
def c22_6 : CC := .reg [
  .mk (some p2) none (.mv (.c (.str []))) [] 0,
  .mk (some p3) none (.mv (.c (.int .i64 190))) [] 1] false
def c22_7 : CC := .reg [
  .mk (some p23) none (.mv (.t p6)) [] 0,
  .mk (some p2) none (.mv (.t p23)) [] 1,
  .mk (some p3) none (.mv (.c (.int .i64 0))) [] 2] false
def F22 : CF := .mk 24 [p0] 5 (.seq c22_0 (.seq c22_1 (.seq (.seq c22_2 (.cond (.t p13) (.seq c22_3 .ret) .skip)) (.seq c22_4 (.seq (.seq c22_5 (.cond (.t p22) (.seq c22_6 .ret) .skip)) (.seq c22_7 .ret)))))) [.t p2, .t p3] 1
/- daybook/daybooklaw19.refused -/
def c23_0 : CC := .reg [
  .mk (some p2) none (.mv (.c (.int .i64 0))) [] 0] false
def c23_1 : CC := .reg [
  .mk (some p6) none (.mv (.t p0)) [] 0,
  .mk (some p7) none (.call (.c (.fn 11 [])) [(.t p6)]) [] 1,
  .mk (some p5) none (.mv (.t p7)) [] 2,
  .mk (some p8) none (.ext 0 (.t p5)) [] 3,
  .mk (some p9) none (.ext 1 (.t p5)) [] 4,
  .mk (some p3) none (.mv (.t p8)) [] 5,
  .mk (some p4) none (.mv (.t p9)) [] 6] false
def c23_2 : CC := .reg [
  .mk (some p10) none (.mv (.t p4)) [] 0,
  .mk (some p11) none (.bin .eql .num (.t p10) (.c (.int .i64 190))) [] 1,
  .mk (some p12) none (.mv (.t p11)) [] 2,
  .mk (some p13) (some (p12, true)) (.mv (.t p3)) [] 3,
  .mk (some p14) (some (p12, true)) (.len 1 (.t p13)) [] 4,
  .mk (some p15) (some (p12, true)) (.bin .eql .num (.t p14) (.c (.int .i64 0))) [] 5,
  .mk (some p16) none (.pick (.t p12) (.t p15) (.c (.bool false))) [] 6] false
def c23_3 : CC := .reg [
  .mk (some p2) none (.mv (.c (.int .i64 1))) [] 0] false
def c23_4 : CC := .reg [
  .mk (some p2) none (.mv (.c (.int .i64 0))) [] 0] false
def F23 : CF := .mk 17 [p0] 5 (.seq c23_0 (.seq c23_1 (.seq (.seq c23_2 (.cond (.t p16) (.seq c23_3 .ret) .skip)) (.seq c23_4 .ret)))) [.t p2] 1
/- daybook/text.Parse -/
def c38_0 : CC := .reg [
  .mk (some p2) none (.alloc 29 [.nils]) [] 0,
  .mk (some p3) none (.alloc 3 [(.int .i64 0)]) [] 1,
  .mk (some p4) none (.alloc 3 [(.int .i64 0)]) [] 2,
  .mk (some p5) none (.alloc 23 [(.int .i64 0)]) [] 3] false
def c38_1 : CC := .reg [
  .mk (some p16) none (.bslice 29 1 [.nils] 1 [(0, (.c .nils))]) [] 0,
  .mk (some p6) none (.alloc 119 [.nils]) [] 1,
  .mk none none (.store 1 (.t p6) (.t p16)) [] 2] false
def c38_2 : CC := .reg [
  .mk (some p7) none (.alloc 29 [.nils]) [] 0] false
def c38_3 : CC := .reg [
  .mk (some p8) none (.alloc 3 [(.int .i64 0)]) [] 0,
  .mk none none (.store 1 (.t p8) (.c (.int .i64 0))) [] 1] false
def c38_4 : CC := .reg [
  .mk (some p17) none (.mv (.t p0)) [] 0,
  .mk (some p18) none (.call (.c (.fn 64 [])) [(.t p17)]) [] 1] false
def c38_5 : CC := .reg [
  .mk (some p9) none (.alloc 124 [(.str []), (.int .i64 0), (.int .i64 0), (.bool false)]) [] 0,
  .mk none none (.store 4 (.t p9) (.t p19)) [] 1] false
def c38_6 : CC := .reg [
  .mk (some p20) none (.load 1 false (.t p6)) [] 0,
  .mk (some p21) none (.len 1 (.t p20)) [] 1,
  .mk (some p22) none (.bin .sub .num (.t p21) (.c (.int .i64 1))) [] 2,
  .mk (some p10) none (.mv (.t p22)) [] 3] false
def c38_7 : CC := .reg [
  .mk (some p23) none (.faddr 1 (.t p9)) [] 0,
  .mk (some p24) none (.load 1 false (.t p23)) [] 1,
  .mk (some p25) none (.faddr 2 (.t p9)) [] 2,
  .mk (some p26) none (.load 1 false (.t p25)) [] 3,
  .mk (some p27) none (.build [(.int .i64 0), (.int .i64 0), (.int .i64 0), (.str []), (.str []), .nils, (.int .i64 0), (.int .i64 0)] [(6, 1, (.t p24)), (7, 1, (.t p26))]) [] 4,
  .mk (some p11) none (.alloc 36 [(.int .i64 0), (.int .i64 0), (.int .i64 0), (.str []), (.str []), .nils, (.int .i64 0), (.int .i64 0)]) [] 5,
  .mk none none (.store 8 (.t p11) (.t p27)) [] 6] false
def c38_8 : CC := .reg [
  .mk (some p29) none (.faddr 3 (.t p9)) [] 0,
  .mk (some p30) none (.load 1 false (.t p29)) [] 1,
  .mk (some p31) none (.mv (.t p30)) [] 2,
  .mk (some p32) (some (p31, false)) (.faddr 0 (.t p9)) [] 3,
  .mk (some p33) (some (p31, false)) (.load 1 false (.t p32)) [] 4,
  .mk (some p34) (some (p31, false)) (.bin .eql .num (.t p33) (.c (.str []))) [] 5,
  .mk (some p35) (some (p31, false)) (.mv (.t p34)) [] 6,
  .mk (some p36) (some (p35, true)) (.mv (.t p10)) [] 7,
  .mk (some p37) (some (p35, true)) (.bin .gtr .num (.t p36) (.c (.int .i64 0))) [] 8,
  .mk (some p38) (some (p31, false)) (.pick (.t p35) (.t p37) (.c (.bool false))) [] 9,
  .mk (some p39) none (.pick (.t p31) (.c (.bool true)) (.t p38)) [] 10,
  .mk (some p28) none (.mv (.t p39)) [] 11] false
def c38_9 : CC := .reg [
  .mk (some p40) none (.faddr 1 (.t p9)) [] 0,
  .mk (some p41) none (.load 1 false (.t p40)) [4] 1,
  .mk (some p42) none (.faddr 2 (.t p9)) [] 2,
  .mk (some p43) none (.load 1 false (.t p42)) [4, 5] 3,
  .mk none none (.store 1 (.t p2) (.c .nils)) [] 4,
  .mk none none (.store 1 (.t p3) (.t p41)) [] 5,
  .mk none none (.store 1 (.t p4) (.t p43)) [] 6,
  .mk none none (.store 1 (.t p5) (.c (.int .i64 50))) [] 7] true
def c38_10 : CC := .reg [
  .mk (some p45) none (.faddr 0 (.t p9)) [] 0,
  .mk (some p46) none (.load 1 false (.t p45)) [] 1,
  .mk (some p47) none (.bin .eql .num (.t p46) (.c (.str []))) [] 2,
  .mk (some p44) none (.mv (.t p47)) [] 3] false
def c38_11 : CC := .reg [
  .mk (some p48) none (.load 1 false (.t p6)) [] 0,
  .mk (some p49) none (.iaddr 1 (.t p48) (.c (.int .i64 0))) [] 1,
  .mk (some p50) none (.load 1 false (.t p49)) [] 2,
  .mk none none (.store 1 (.t p2) (.t p50)) [] 3,
  .mk none none (.store 1 (.t p3) (.c (.int .i64 0))) [] 4,
  .mk none none (.store 1 (.t p4) (.c (.int .i64 0))) [] 5,
  .mk none none (.store 1 (.t p5) (.c (.int .i64 0))) [] 6] false
def c38_12 : CC := .reg [
  .mk (some p52) none (.faddr 0 (.t p9)) [] 0,
  .mk (some p53) none (.load 1 false (.t p52)) [] 1,
  .mk (some p54) none (.call (.c (.fn 65 [])) [(.c (.str [41, 93, 125])), (.t p53)]) [] 2,
  .mk (some p51) none (.mv (.t p54)) [] 3] false
def c38_13 : CC := .reg [
  .mk (some p55) none (.faddr 0 (.t p9)) [] 0,
  .mk (some p56) none (.load 1 false (.t p55)) [] 1,
  .mk (some p57) none (.call (.c (.fn 66 [])) [(.c (.str [41, 93, 125])), (.t p56)]) [] 2,
  .mk (some p12) none (.mv (.t p57)) [] 3] false
def c38_14 : CC := .reg [
  .mk (some p58) none (.mv (.t p10)) [] 0,
  .mk (some p59) none (.bin .eql .num (.t p58) (.c (.int .i64 0))) [] 1,
  .mk (some p60) none (.mv (.t p59)) [] 2,
  .mk (some p61) (some (p60, false)) (.load 1 false (.t p7)) [] 3,
  .mk (some p62) (some (p60, false)) (.mv (.t p10)) [] 4,
  .mk (some p63) (some (p60, false)) (.bin .sub .num (.t p62) (.c (.int .i64 1))) [] 5,
  .mk (some p64) (some (p60, false)) (.iaddr 8 (.t p61) (.t p63)) [] 6,
  .mk (some p65) (some (p60, false)) (.faddr 0 (.t p64)) [] 7,
  .mk (some p66) (some (p60, false)) (.load 1 false (.t p65)) [] 8,
  .mk (some p67) (some (p60, false)) (.mv (.t p12)) [] 9,
  .mk (some p68) (some (p60, false)) (.bin .add .num (.c (.int .i64 3)) (.t p67)) [] 10,
  .mk (some p69) (some (p60, false)) (.bin .neq .num (.t p66) (.t p68)) [] 11,
  .mk (some p70) none (.pick (.t p60) (.c (.bool true)) (.t p69)) [] 12] false
def c38_15 : CC := .reg [
  .mk (some p71) none (.faddr 1 (.t p9)) [] 0,
  .mk (some p72) none (.load 1 false (.t p71)) [4] 1,
  .mk (some p73) none (.faddr 2 (.t p9)) [] 2,
  .mk (some p74) none (.load 1 false (.t p73)) [4, 5] 3,
  .mk none none (.store 1 (.t p2) (.c .nils)) [] 4,
  .mk none none (.store 1 (.t p3) (.t p72)) [] 5,
  .mk none none (.store 1 (.t p4) (.t p74)) [] 6,
  .mk none none (.store 1 (.t p5) (.c (.int .i64 50))) [] 7] true
def c38_16 : CC := .reg [
  .mk (some p75) none (.load 1 false (.t p7)) [] 0,
  .mk (some p76) none (.mv (.t p10)) [] 1,
  .mk (some p77) none (.bin .sub .num (.t p76) (.c (.int .i64 1))) [] 2,
  .mk (some p78) none (.iaddr 8 (.t p75) (.t p77)) [] 3,
  .mk (some p79) none (.load 8 true (.t p78)) [] 4,
  .mk none none (.store 8 (.t p11) (.t p79)) [] 5] false
def c38_17 : CC := .reg [
  .mk (some p80) none (.load 1 false (.t p6)) [] 0,
  .mk (some p81) none (.mv (.t p10)) [] 1,
  .mk (some p82) none (.iaddr 1 (.t p80) (.t p81)) [] 2,
  .mk (some p83) none (.load 1 false (.t p82)) [] 3,
  .mk (some p84) none (.faddr 5 (.t p11)) [] 4,
  .mk none none (.store 1 (.t p84) (.t p83)) [] 5] false
def c38_18 : CC := .reg [
  .mk (some p85) none (.load 1 false (.t p6)) [] 0,
  .mk (some p86) none (.mv (.t p10)) [] 1,
  .mk (some p87) none (.slice 1 (.t p85) none (some (.t p86)) none) [] 2,
  .mk (some p88) none (.load 1 false (.t p7)) [7] 3,
  .mk (some p89) none (.mv (.t p10)) [] 4,
  .mk (some p90) none (.bin .sub .num (.t p89) (.c (.int .i64 1))) [] 5,
  .mk (some p91) none (.slice 8 (.t p88) none (some (.t p90)) none) [] 6,
  .mk none none (.store 1 (.t p6) (.t p87)) [] 7,
  .mk none none (.store 1 (.t p7) (.t p91)) [] 8] true
def c38_19 : CC := .reg [
  .mk (some p94) none (.load 1 false (.t p6)) [] 0,
  .mk (some p95) none (.mv (.t p10)) [] 1,
  .mk (some p96) none (.bin .sub .num (.t p95) (.c (.int .i64 1))) [] 2,
  .mk (some p97) none (.load 1 false (.t p6)) [] 3,
  .mk (some p98) none (.mv (.t p10)) [] 4,
  .mk (some p99) none (.bin .sub .num (.t p98) (.c (.int .i64 1))) [] 5,
  .mk (some p100) none (.iaddr 1 (.t p97) (.t p99)) [] 6,
  .mk (some p101) none (.load 1 false (.t p100)) [] 7,
  .mk (some p102) none (.load 8 true (.t p11)) [] 8,
  .mk (some p103) none (.len 1 (.t p101)) [] 9,
  .mk (some p104) none (.bslice 36 8 [(.int .i64 0), (.int .i64 0), (.int .i64 0), (.str []), (.str []), .nils, (.int .i64 0), (.int .i64 0)] 1 [(0, (.c (.agg [(.int .i64 0), (.int .i64 0), (.int .i64 0), (.str []), (.str []), .nils, (.int .i64 0), (.int .i64 0)])))]) [] 10,
  .mk (some p105) none (.append 36 8 (.t p101) (.t p104)) [] 11,
  .mk (some p106) none (.iaddr 1 (.t p94) (.t p96)) [] 12,
  .mk none none (.store 1 (.t p106) (.t p105)) [] 13] true
def c38_20 : CC := .reg [
  .mk (some p107) none (.iaddr 8 (.t p105) (.t p103)) [] 0,
  .mk none none (.store 8 (.t p107) (.t p102)) [] 1] false
def c38_21 : CC := .reg [
  .mk (some p108) none (.load 1 false (.t p6)) [10] 0,
  .mk (some p109) none (.mv (.t p10)) [] 1,
  .mk (some p110) none (.bin .sub .num (.t p109) (.c (.int .i64 1))) [] 2,
  .mk (some p111) none (.load 1 false (.t p6)) [] 3,
  .mk (some p112) none (.mv (.t p10)) [] 4,
  .mk (some p113) none (.bin .sub .num (.t p112) (.c (.int .i64 1))) [] 5,
  .mk (some p114) none (.iaddr 1 (.t p111) (.t p113)) [] 6,
  .mk (some p115) none (.load 1 false (.t p114)) [] 7,
  .mk (some p116) none (.load 8 true (.t p11)) [] 8,
  .mk (some p117) none (.bslice 36 8 [(.int .i64 0), (.int .i64 0), (.int .i64 0), (.str []), (.str []), .nils, (.int .i64 0), (.int .i64 0)] 1 [(0, (.t p116))]) [] 9,
  .mk (some p118) none (.append 36 8 (.t p115) (.t p117)) [] 10,
  .mk (some p119) none (.iaddr 1 (.t p108) (.t p110)) [] 11,
  .mk none none (.store 1 (.t p119) (.t p118)) [] 12] true
def c38_22 : CC := .reg [
  .mk (some p120) none (.load 1 false (.t p8)) [] 0,
  .mk (some p121) none (.bin .add .num (.t p120) (.c (.int .i64 1))) [] 1,
  .mk none none (.store 1 (.t p8) (.t p121)) [] 2] false
def c38_23 : CC := .reg [
  .mk (some p122) none (.load 1 false (.t p8)) [] 0,
  .mk (some p123) none (.bin .gtr .num (.t p122) (.c (.int .i64 5000))) [] 1] false
def c38_24 : CC := .reg [
  .mk (some p124) none (.faddr 1 (.t p9)) [] 0,
  .mk (some p125) none (.load 1 false (.t p124)) [4] 1,
  .mk (some p126) none (.faddr 2 (.t p9)) [] 2,
  .mk (some p127) none (.load 1 false (.t p126)) [4, 5] 3,
  .mk none none (.store 1 (.t p2) (.c .nils)) [] 4,
  .mk none none (.store 1 (.t p3) (.t p125)) [] 5,
  .mk none none (.store 1 (.t p4) (.t p127)) [] 6,
  .mk none none (.store 1 (.t p5) (.c (.int .i64 50))) [] 7] true
def c38_25 : CC := .reg [
  .mk (some p128) none (.faddr 0 (.t p9)) [] 0,
  .mk (some p129) none (.load 1 false (.t p128)) [] 1,
  .mk (some p130) none (.call (.c (.fn 66 [])) [(.c (.str [40, 91, 123])), (.t p129)]) [] 2,
  .mk (some p13) none (.mv (.t p130)) [] 3] false
def c38_26 : CC := .reg [
  .mk (some p131) none (.mv (.t p13)) [] 0,
  .mk (some p132) none (.bin .geq .num (.t p131) (.c (.int .i64 0))) [] 1] false
def c38_27 : CC := .reg [
  .mk (some p133) none (.mv (.t p10)) [] 0,
  .mk (some p134) none (.bin .eql .num (.t p133) (.c (.int .i64 50))) [] 1] false
def c38_28 : CC := .reg [
  .mk (some p135) none (.faddr 1 (.t p9)) [] 0,
  .mk (some p136) none (.load 1 false (.t p135)) [4] 1,
  .mk (some p137) none (.faddr 2 (.t p9)) [] 2,
  .mk (some p138) none (.load 1 false (.t p137)) [4, 5] 3,
  .mk none none (.store 1 (.t p2) (.c .nils)) [] 4,
  .mk none none (.store 1 (.t p3) (.t p136)) [] 5,
  .mk none none (.store 1 (.t p4) (.t p138)) [] 6,
  .mk none none (.store 1 (.t p5) (.c (.int .i64 50))) [] 7] true
def c38_29 : CC := .reg [
  .mk (some p139) none (.mv (.t p13)) [] 0,
  .mk (some p140) none (.bin .add .num (.c (.int .i64 3)) (.t p139)) [] 1,
  .mk (some p141) none (.faddr 0 (.t p11)) [] 2,
  .mk none none (.store 1 (.t p141) (.t p140)) [] 3] false
def c38_30 : CC := .reg [
  .mk (some p142) none (.load 1 false (.t p6)) [] 0,
  .mk (some p143) none (.bslice 29 1 [.nils] 1 [(0, (.c .nils))]) [] 1,
  .mk (some p145) none (.load 1 false (.t p7)) [5] 3,
  .mk (some p146) none (.load 8 true (.t p11)) [5] 4,
  .mk (some p147) none (.bslice 36 8 [(.int .i64 0), (.int .i64 0), (.int .i64 0), (.str []), (.str []), .nils, (.int .i64 0), (.int .i64 0)] 1 [(0, (.t p146))]) [5] 5,
  .mk (some p144) none (.append 29 1 (.t p142) (.t p143)) [] 2,
  .mk (some p148) none (.append 36 8 (.t p145) (.t p147)) [] 6,
  .mk none none (.store 1 (.t p6) (.t p144)) [] 7,
  .mk none none (.store 1 (.t p7) (.t p148)) [] 8] true
def c38_31 : CC := .reg [
  .mk (some p150) none (.faddr 0 (.t p9)) [] 0,
  .mk (some p151) none (.load 1 false (.t p150)) [] 1,
  .mk (some p152) none (.call (.c (.fn 67 [])) [(.t p151)]) [] 2,
  .mk (some p149) none (.mv (.t p152)) [] 3,
  .mk (some p153) none (.ext 0 (.t p149)) [] 4,
  .mk (some p154) none (.ext 1 (.t p149)) [] 5,
  .mk (some p14) none (.alloc 34 [(.int .i64 0), (.int .i64 0), (.str [])]) [] 6,
  .mk none none (.store 3 (.t p14) (.t p153)) [] 7,
  .mk (some p15) none (.mv (.t p154)) [] 8] false
def c38_32 : CC := .reg [
  .mk (some p160) none (.mv (.t p15)) [] 0,
  .mk (some p161) none (.bin .eql .num (.t p160) (.c (.int .i64 0))) [] 1,
  .mk (some p159) none (.mv (.t p161)) [] 2] false
def c38_33 : CC := .reg [
  .mk (some p162) none (.load 3 true (.t p14)) [2] 0,
  .mk (some p163) none (.faddr 0 (.t p11)) [] 1,
  .mk none none (.store 1 (.t p163) (.c (.int .i64 1))) [] 2,
  .mk (some p164) none (.faddr 1 (.t p11)) [] 3,
  .mk none none (.store 3 (.t p164) (.t p162)) [] 4] true
def c38_34 : CC := .reg [
  .mk (some p166) none (.faddr 0 (.t p9)) [] 0,
  .mk (some p167) none (.load 1 false (.t p166)) [] 1,
  .mk (some p168) none (.call (.c (.fn 68 [])) [(.t p167)]) [] 2,
  .mk (some p165) none (.mv (.t p168)) [] 3] false
def c38_35 : CC := .reg [
  .mk (some p169) none (.faddr 0 (.t p9)) [] 0,
  .mk (some p170) none (.load 1 false (.t p169)) [3] 1,
  .mk (some p171) none (.faddr 0 (.t p11)) [] 2,
  .mk none none (.store 1 (.t p171) (.c (.int .i64 2))) [] 3,
  .mk (some p172) none (.faddr 4 (.t p11)) [] 4,
  .mk none none (.store 1 (.t p172) (.t p170)) [] 5] true
def c38_36 : CC := .reg [
  .mk (some p155) none (.faddr 1 (.t p9)) [] 0,
  .mk (some p156) none (.load 1 false (.t p155)) [4] 1,
  .mk (some p157) none (.faddr 2 (.t p9)) [] 2,
  .mk (some p158) none (.load 1 false (.t p157)) [4, 5] 3,
  .mk none none (.store 1 (.t p2) (.c .nils)) [] 4,
  .mk none none (.store 1 (.t p3) (.t p156)) [] 5,
  .mk none none (.store 1 (.t p4) (.t p158)) [] 6,
  .mk none none (.store 1 (.t p5) (.c (.int .i64 50))) [] 7] true
def c38_37 : CC := .reg [
  .mk (some p175) none (.load 1 false (.t p6)) [] 0,
  .mk (some p176) none (.mv (.t p10)) [] 1,
  .mk (some p177) none (.iaddr 1 (.t p175) (.t p176)) [] 2,
  .mk (some p178) none (.load 1 false (.t p177)) [] 3,
  .mk (some p179) none (.load 8 true (.t p11)) [] 4,
  .mk (some p180) none (.len 1 (.t p178)) [] 5,
  .mk (some p181) none (.bslice 36 8 [(.int .i64 0), (.int .i64 0), (.int .i64 0), (.str []), (.str []), .nils, (.int .i64 0), (.int .i64 0)] 1 [(0, (.c (.agg [(.int .i64 0), (.int .i64 0), (.int .i64 0), (.str []), (.str []), .nils, (.int .i64 0), (.int .i64 0)])))]) [] 6,
  .mk (some p182) none (.append 36 8 (.t p178) (.t p181)) [] 7,
  .mk (some p183) none (.iaddr 1 (.t p175) (.t p176)) [] 8,
  .mk none none (.store 1 (.t p183) (.t p182)) [] 9] true
def c38_38 : CC := .reg [
  .mk (some p184) none (.iaddr 8 (.t p182) (.t p180)) [] 0,
  .mk none none (.store 8 (.t p184) (.t p179)) [] 1] false
def c38_39 : CC := .reg [
  .mk (some p185) none (.load 1 false (.t p6)) [8] 0,
  .mk (some p186) none (.mv (.t p10)) [] 1,
  .mk (some p187) none (.load 1 false (.t p6)) [] 2,
  .mk (some p188) none (.mv (.t p10)) [] 3,
  .mk (some p189) none (.iaddr 1 (.t p187) (.t p188)) [] 4,
  .mk (some p190) none (.load 1 false (.t p189)) [] 5,
  .mk (some p191) none (.load 8 true (.t p11)) [] 6,
  .mk (some p192) none (.bslice 36 8 [(.int .i64 0), (.int .i64 0), (.int .i64 0), (.str []), (.str []), .nils, (.int .i64 0), (.int .i64 0)] 1 [(0, (.t p191))]) [] 7,
  .mk (some p193) none (.append 36 8 (.t p190) (.t p192)) [] 8,
  .mk (some p194) none (.iaddr 1 (.t p185) (.t p186)) [] 9,
  .mk none none (.store 1 (.t p194) (.t p193)) [] 10] true
def c38_40 : CC := .rng (.t p18) [p19] c38_5 (.blk 1 (.seq c38_6 (.seq c38_7 (.seq (.blk 2 (.seq c38_8 (.cond (.t p28) (.seq c38_9 .ret) (.seq c38_10 (.cond (.t p44) (.seq c38_11 .ret) (.seq c38_12 (.cond (.t p51) (.seq c38_13 (.seq (.seq c38_14 (.cond (.t p70) (.seq c38_15 .ret) .skip)) (.seq c38_16 (.seq c38_17 (.seq c38_18 (.seq (.coin p92 p93 (.seq c38_19 c38_20) c38_21) (.exit 1))))))) .skip))))))) (.seq (.seq c38_22 (.seq c38_23 (.cond (.t p123) (.seq c38_24 .ret) .skip))) (.seq (.seq c38_25 (.seq c38_26 (.cond (.t p132) (.seq (.seq c38_27 (.cond (.t p134) (.seq c38_28 .ret) .skip)) (.seq c38_29 (.seq c38_30 (.exit 1)))) .skip))) (.seq c38_31 (.seq (.blk 3 (.seq c38_32 (.cond (.t p159) c38_33 (.seq c38_34 (.cond (.t p165) c38_35 (.seq c38_36 .ret)))))) (.coin p173 p174 (.seq c38_37 c38_38) c38_39)))))))))
def c38_41 : CC := .reg [
  .mk none none (.store 1 (.t p2) (.c .nils)) [] 0,
  .mk none none (.store 1 (.t p3) (.c (.int .i64 0))) [] 1,
  .mk none none (.store 1 (.t p4) (.c (.int .i64 0))) [] 2,
  .mk none none (.store 1 (.t p5) (.c (.int .i64 0))) [] 3] false
def F38 : CF := .mk 195 [p0] 8 (.seq c38_0 (.seq c38_1 (.seq c38_2 (.seq c38_3 (.seq (.seq c38_4 (.blk 0 c38_40)) (.seq c38_41 .ret)))))) [.cell p2 1 false, .cell p3 1 false, .cell p4 1 false, .cell p5 1 false] 1
/- daybook/shape.items -/
def c41_0 : CC := .reg [
  .mk (some p2) none (.box 36 (.t p0)) [] 0,
  .mk (some p4) none (.mv (.c .nils)) [] 1,
  .mk (some p5) none (.mv (.c (.bool false))) [] 2] false
def c41_1 : CC := .reg [
  .mk (some p12) none (.faddr 0 (.t p2)) [] 0,
  .mk (some p13) none (.load 1 false (.t p12)) [] 1,
  .mk (some p14) none (.bin .neq .num (.t p13) (.c (.int .i64 4))) [] 2,
  .mk (some p15) none (.mv (.t p14)) [] 3,
  .mk (some p16) (some (p15, false)) (.mv (.t p1)) [] 4,
  .mk (some p17) (some (p15, false)) (.bin .gtr .num (.t p16) (.c (.int .i64 20))) [] 5,
  .mk (some p18) none (.pick (.t p15) (.c (.bool true)) (.t p17)) [] 6] false
def c41_2 : CC := .reg [
  .mk (some p4) none (.mv (.c .nils)) [] 0,
  .mk (some p5) none (.mv (.c (.bool false))) [] 1] false
def c41_3 : CC := .reg [
  .mk (some p6) none (.mv (.c .nils)) [] 0] false
def c41_4 : CC := .reg [
  .mk (some p7) none (.mv (.c (.bool true))) [] 0] false
def c41_5 : CC := .reg [
  .mk (some p19) none (.faddr 5 (.t p2)) [] 0,
  .mk (some p20) none (.load 1 false (.t p19)) [] 1,
  .mk (some p21) none (.len 1 (.t p20)) [] 2,
  .mk (some p22) none (.mv (.c (.int .i64 0))) [] 3] false
def c41_6 : CC := .reg [
  .mk (some p23) none (.bin .lss .num (.t p22) (.t p21)) [] 0] false
def c41_7 : CC := .reg [
  .mk (some p24) none (.iaddr 8 (.t p20) (.t p22)) [] 0,
  .mk (some p25) none (.load 8 true (.t p24)) [] 1,
  .mk (some p9) none (.alloc 36 [(.int .i64 0), (.int .i64 0), (.int .i64 0), (.str []), (.str []), .nils, (.int .i64 0), (.int .i64 0)]) [] 2,
  .mk none none (.store 8 (.t p9) (.t p25)) [] 3] false
def c41_8 : CC := .reg [
  .mk (some p27) none (.load 8 true (.t p9)) [] 0,
  .mk (some p28) none (.mv (.t p1)) [] 1,
  .mk (some p29) none (.call (.c (.fn 72 [])) [(.t p27), (.t p28)]) [] 2,
  .mk (some p26) none (.mv (.t p29)) [] 3,
  .mk (some p30) none (.ext 0 (.t p26)) [] 4,
  .mk (some p31) none (.ext 1 (.t p26)) [] 5,
  .mk (some p10) none (.alloc 44 [(.bool false), (.str []), (.bool false), (.int .i64 0), (.bool false), (.int .i64 0), (.int .i64 0), (.str []), (.bool false), .nils, (.int .i64 0)]) [] 6,
  .mk none none (.store 11 (.t p10) (.t p30)) [] 7,
  .mk (some p11) none (.mv (.t p31)) [] 8] false
def c41_9 : CC := .reg [
  .mk (some p32) none (.mv (.t p11)) [] 0,
  .mk (some p33) none (.un .not (.t p32)) [] 1] false
def c41_10 : CC := .reg [
  .mk (some p7) none (.mv (.c (.bool false))) [] 0] false
def c41_11 : CC := .reg [
  .mk (some p34) none (.mv (.t p6)) [] 0,
  .mk (some p35) none (.load 11 true (.t p10)) [] 1,
  .mk (some p36) none (.bslice 44 11 [(.bool false), (.str []), (.bool false), (.int .i64 0), (.bool false), (.int .i64 0), (.int .i64 0), (.str []), (.bool false), .nils, (.int .i64 0)] 1 [(0, (.t p35))]) [] 2,
  .mk (some p37) none (.append 44 11 (.t p34) (.t p36)) [] 3,
  .mk (some p6) none (.mv (.t p37)) [] 4] false
def c41_12 : CC := .reg [
  .mk (some p38) none (.bin .add .num (.t p22) (.c (.int .i64 1))) [] 0,
  .mk (some p22) none (.mv (.t p38)) [] 1] false
def c41_13 : CC := .loop (.seq c41_6 (.seq (.cond (.t p23) .skip (.exit 0)) (.seq (.blk 1 (.seq c41_7 (.seq c41_8 (.seq (.seq c41_9 (.cond (.t p33) (.seq c41_10 (.exit 0)) .skip)) c41_11)))) c41_12)))
def c41_14 : CC := .reg [
  .mk (some p39) none (.mv (.t p6)) [] 0,
  .mk (some p40) none (.mv (.t p7)) [] 1,
  .mk (some p4) none (.mv (.t p39)) [] 2,
  .mk (some p5) none (.mv (.t p40)) [] 3] false
def F41 : CF := .mk 41 [p0, p1] 6 (.seq c41_0 (.scope (.seq (.seq c41_1 (.cond (.t p18) (.seq c41_2 .ret) .skip)) (.seq c41_3 (.seq c41_4 (.seq .skip (.seq (.seq c41_5 (.blk 0 c41_13)) (.seq c41_14 .ret)))))))) [.t p4, .t p5] 1
/- daybook/shape.may -/
def c42_0 : CC := .reg [
  .mk (some p2) none (.alloc 4 [(.bool false)]) [] 0] false
def c42_1 : CC := .reg [
  .mk (some p3) none (.alloc 3 [(.int .i64 0)]) [] 0,
  .mk none none (.store 1 (.t p3) (.c (.int .i64 0))) [] 1] false
def c42_2 : CC := .reg [
  .mk (some p8) none (.mv (.t p0)) [] 0,
  .mk (some p9) none (.call (.c (.fn 73 [])) [(.t p8), (.c (.int .i64 1))]) [] 1] false
def c42_3 : CC := .reg [
  .mk (some p4) none (.mv (.t p10)) [] 0] false
def c42_4 : CC := .reg [
  .mk (some p5) none (.mv (.t p11)) [] 0] false
def c42_5 : CC := .reg [
  .mk (some p12) none (.load 1 false (.t p3)) [] 0,
  .mk (some p13) none (.mv (.t p5)) [] 1,
  .mk (some p14) none (.len 1 (.t p13)) [] 2,
  .mk (some p15) none (.bin .add .num (.t p12) (.t p14)) [] 3,
  .mk none none (.store 1 (.t p3) (.t p15)) [] 4] false
def c42_6 : CC := .reg [
  .mk (some p16) none (.mv (.t p4)) [] 0,
  .mk (some p17) none (.bin .gtr .num (.t p16) (.c (.int .i64 20))) [] 1,
  .mk (some p18) none (.mv (.t p17)) [] 2,
  .mk (some p19) (some (p18, false)) (.load 1 false (.t p3)) [] 3,
  .mk (some p20) (some (p18, false)) (.bin .gtr .num (.t p19) (.c (.int .i64 1000))) [] 4,
  .mk (some p21) none (.pick (.t p18) (.c (.bool true)) (.t p20)) [] 5] false
def c42_7 : CC := .reg [
  .mk none none (.store 1 (.t p2) (.c (.bool false))) [] 0] false
def c42_8 : CC := .reg [
  .mk (some p22) none (.mv (.t p5)) [] 0,
  .mk (some p23) none (.len 1 (.t p22)) [] 1,
  .mk (some p24) none (.mv (.c (.int .i64 0))) [] 2] false
def c42_9 : CC := .reg [
  .mk (some p25) none (.bin .lss .num (.t p24) (.t p23)) [] 0] false
def c42_10 : CC := .reg [
  .mk (some p26) none (.mv (.t p24)) [] 0,
  .mk (some p27) none (.iaddr 11 (.t p22) (.t p24)) [] 1,
  .mk (some p28) none (.load 11 true (.t p27)) [] 2,
  .mk (some p7) none (.alloc 44 [(.bool false), (.str []), (.bool false), (.int .i64 0), (.bool false), (.int .i64 0), (.int .i64 0), (.str []), (.bool false), .nils, (.int .i64 0)]) [] 3,
  .mk (some p6) none (.mv (.t p26)) [] 4,
  .mk none none (.store 11 (.t p7) (.t p28)) [] 5] false
def c42_11 : CC := .reg [
  .mk (some p29) none (.load 11 true (.t p7)) [] 0,
  .mk (some p30) none (.call (.c (.fn 74 [])) [(.t p29)]) [] 1,
  .mk (some p31) none (.un .not (.t p30)) [] 2,
  .mk (some p32) none (.mv (.t p31)) [] 3,
  .mk (some p33) (some (p32, false)) (.mv (.t p5)) [] 4,
  .mk (some p34) (some (p32, false)) (.mv (.t p6)) [] 5,
  .mk (some p35) (some (p32, false)) (.slice 11 (.t p33) none (some (.t p34)) none) [] 6,
  .mk (some p36) (some (p32, false)) (.mkfn 76 [(.t p7)]) [] 7,
  .mk (some p37) (some (p32, false)) (.call (.c (.fn 75 [])) [(.t p35), (.t p36)]) [] 8,
  .mk (some p38) none (.pick (.t p32) (.c (.bool true)) (.t p37)) [] 9] false
def c42_12 : CC := .reg [
  .mk none none (.store 1 (.t p2) (.c (.bool false))) [] 0] false
def c42_13 : CC := .reg [
  .mk (some p39) none (.bin .add .num (.t p24) (.c (.int .i64 1))) [] 0,
  .mk (some p24) none (.mv (.t p39)) [] 1] false
def c42_14 : CC := .loop (.seq c42_9 (.seq (.cond (.t p25) .skip (.exit 2)) (.seq (.blk 3 (.seq c42_10 (.seq c42_11 (.cond (.t p38) (.seq c42_12 .ret) .skip)))) c42_13)))
def c42_15 : CC := .rng (.t p9) [p10, p11] (.seq c42_3 c42_4) (.blk 1 (.seq c42_5 (.seq (.seq c42_6 (.cond (.t p21) (.seq c42_7 .ret) .skip)) (.seq c42_8 (.blk 2 c42_14)))))
def c42_16 : CC := .reg [
  .mk none none (.store 1 (.t p2) (.c (.bool true))) [] 0] false
def F42 : CF := .mk 40 [p0] 6 (.seq c42_0 (.seq c42_1 (.seq (.seq c42_2 (.blk 0 c42_15)) (.seq c42_16 .ret)))) [.cell p2 1 false] 1
/- daybook/shape.same -/
def c43_0 : CC := .reg [
  .mk (some p2) none (.box 36 (.t p0)) [] 0,
  .mk (some p3) none (.box 36 (.t p1)) [] 1,
  .mk (some p4) none (.mv (.c (.bool false))) [] 2] false
def c43_1 : CC := .reg [
  .mk (some p5) none (.faddr 0 (.t p2)) [] 0,
  .mk (some p6) none (.load 1 false (.t p5)) [] 1,
  .mk (some p7) none (.faddr 0 (.t p3)) [] 2,
  .mk (some p8) none (.load 1 false (.t p7)) [] 3,
  .mk (some p9) none (.bin .eql .num (.t p6) (.t p8)) [] 4,
  .mk (some p10) none (.mv (.t p9)) [] 5,
  .mk (some p11) (some (p10, true)) (.faddr 1 (.t p2)) [] 6,
  .mk (some p12) (some (p10, true)) (.load 3 true (.t p11)) [] 7,
  .mk (some p13) (some (p10, true)) (.faddr 1 (.t p3)) [] 8,
  .mk (some p14) (some (p10, true)) (.load 3 true (.t p13)) [] 9,
  .mk (some p15) (some (p10, true)) (.bin .eql (.cells [.i, .i, .s]) (.t p12) (.t p14)) [] 10,
  .mk (some p16) none (.pick (.t p10) (.t p15) (.c (.bool false))) [] 11,
  .mk (some p17) none (.mv (.t p16)) [] 12,
  .mk (some p18) (some (p17, true)) (.faddr 4 (.t p2)) [] 13,
  .mk (some p19) (some (p17, true)) (.load 1 false (.t p18)) [] 14,
  .mk (some p20) (some (p17, true)) (.faddr 4 (.t p3)) [] 15,
  .mk (some p21) (some (p17, true)) (.load 1 false (.t p20)) [] 16,
  .mk (some p22) (some (p17, true)) (.bin .eql .num (.t p19) (.t p21)) [] 17,
  .mk (some p23) none (.pick (.t p17) (.t p22) (.c (.bool false))) [] 18,
  .mk (some p24) none (.mv (.t p23)) [] 19,
  .mk (some p25) (some (p24, true)) (.faddr 5 (.t p2)) [] 20,
  .mk (some p26) (some (p24, true)) (.load 1 false (.t p25)) [] 21,
  .mk (some p27) (some (p24, true)) (.faddr 5 (.t p3)) [] 22,
  .mk (some p28) (some (p24, true)) (.load 1 false (.t p27)) [] 23,
  .mk (some p29) (some (p24, true)) (.call (.c (.fn 78 [])) [(.t p26), (.t p28), (.c (.fn 43 []))]) [] 24,
  .mk (some p30) none (.pick (.t p24) (.t p29) (.c (.bool false))) [] 25,
  .mk (some p4) none (.mv (.t p30)) [] 26] false
def F43 : CF := .mk 31 [p0, p1] 5 (.seq c43_0 (.seq c43_1 .ret)) [.t p4] 1
/- daybook/shape.list -/
def c44_0 : CC := .reg [
  .mk (some p2) none (.alloc 36 [(.int .i64 0), (.int .i64 0), (.int .i64 0), (.str []), (.str []), .nils, (.int .i64 0), (.int .i64 0)]) [] 0] false
def c44_1 : CC := .reg [
  .mk (some p6) none (.build [(.int .i64 0), (.int .i64 0), (.int .i64 0), (.str []), (.str []), .nils, (.int .i64 0), (.int .i64 0)] [(0, 1, (.c (.int .i64 4)))]) [] 0,
  .mk (some p3) none (.alloc 36 [(.int .i64 0), (.int .i64 0), (.int .i64 0), (.str []), (.str []), .nils, (.int .i64 0), (.int .i64 0)]) [] 1,
  .mk none none (.store 8 (.t p3) (.t p6)) [] 2] false
def c44_2 : CC := .reg [
  .mk (some p7) none (.mv (.t p0)) [] 0,
  .mk (some p8) none (.len 1 (.t p7)) [] 1,
  .mk (some p9) none (.mv (.c (.int .i64 0))) [] 2] false
def c44_3 : CC := .reg [
  .mk (some p10) none (.bin .lss .num (.t p9) (.t p8)) [] 0] false
def c44_4 : CC := .reg [
  .mk (some p11) none (.iaddr 11 (.t p7) (.t p9)) [] 0,
  .mk (some p12) none (.load 11 true (.t p11)) [] 1,
  .mk (some p5) none (.alloc 44 [(.bool false), (.str []), (.bool false), (.int .i64 0), (.bool false), (.int .i64 0), (.int .i64 0), (.str []), (.bool false), .nils, (.int .i64 0)]) [] 2,
  .mk none none (.store 11 (.t p5) (.t p12)) [] 3] false
def c44_5 : CC := .reg [
  .mk (some p13) none (.faddr 5 (.t p3)) [] 0,
  .mk (some p14) none (.load 1 false (.t p13)) [3] 1,
  .mk (some p15) none (.load 11 true (.t p5)) [] 2,
  .mk (some p16) none (.call (.c (.fn 79 [])) [(.t p15)]) [] 3,
  .mk (some p17) none (.bslice 36 8 [(.int .i64 0), (.int .i64 0), (.int .i64 0), (.str []), (.str []), .nils, (.int .i64 0), (.int .i64 0)] 1 [(0, (.t p16))]) [] 4,
  .mk (some p18) none (.append 36 8 (.t p14) (.t p17)) [] 5,
  .mk (some p19) none (.faddr 5 (.t p3)) [] 6,
  .mk none none (.store 1 (.t p19) (.t p18)) [] 7] true
def c44_6 : CC := .reg [
  .mk (some p20) none (.bin .add .num (.t p9) (.c (.int .i64 1))) [] 0,
  .mk (some p9) none (.mv (.t p20)) [] 1] false
def c44_7 : CC := .loop (.seq c44_3 (.seq (.cond (.t p10) .skip (.exit 0)) (.seq (.blk 1 (.seq c44_4 c44_5)) c44_6)))
def c44_8 : CC := .reg [
  .mk (some p21) none (.load 8 true (.t p3)) [] 0,
  .mk none none (.store 8 (.t p2) (.t p21)) [] 1] false
def F44 : CF := .mk 22 [p0] 5 (.seq c44_0 (.seq c44_1 (.seq (.seq c44_2 (.blk 0 c44_7)) (.seq c44_8 .ret)))) [.cell p2 8 true] 1
/- daybook/text.Print -/
def c51_0 : CC := .reg [
  .mk (some p2) none (.mv (.c (.str []))) [] 0,
  .mk (some p3) none (.mv (.c (.int .i64 0))) [] 1] false
def c51_1 : CC := .reg [
  .mk (some p5) none (.build [.nilp, .nils, (.int .i64 0), (.int .i64 0), (.bool false)] []) [] 0,
  .mk (some p6) none (.box 150 (.t p5)) [] 1,
  .mk (some p4) none (.mv (.t p6)) [] 2] false
def c51_2 : CC := .reg [
  .mk (some p7) none (.mv (.t p4)) [] 0,
  .mk (some p8) none (.mv (.t p0)) [] 1,
  .mk (some p9) none (.call (.c (.fn 85 [])) [(.t p7), (.t p8), (.c (.str [32]))]) [] 2] false
def c51_3 : CC := .reg [
  .mk (some p10) none (.mv (.t p4)) [] 0,
  .mk (some p11) none (.nilck (.t p10)) [] 1,
  .mk (some p12) none (.faddr 4 (.t p11)) [] 2,
  .mk (some p13) none (.load 1 false (.t p12)) [] 3] false
def c51_4 : CC := .reg [
  .mk (some p2) none (.mv (.c (.str []))) [] 0,
  .mk (some p3) none (.mv (.c (.int .i64 2))) [] 1] false
def c51_5 : CC := .reg [
  .mk (some p14) none (.mv (.t p4)) [] 0,
  .mk (some p15) none (.nilck (.t p14)) [] 1,
  .mk (some p16) none (.faddr 0 (.t p15)) [] 2,
  .mk (some p17) none (.call (.c (.fn 86 [])) [(.t p16)]) [] 3,
  .mk (some p2) none (.mv (.t p17)) [] 4,
  .mk (some p3) none (.mv (.c (.int .i64 0))) [] 5] false
def F51 : CF := .mk 18 [p0] 5 (.seq c51_0 (.seq c51_1 (.seq (.seq c51_2 (.seq c51_3 (.cond (.t p13) (.seq c51_4 .ret) .skip))) (.seq c51_5 .ret)))) [.t p2, .t p3] 1
/- daybook/text.tokens -/
def c64_0 : CC := .reg [
  .mk (some p1) none (.box 9 (.t p0)) [] 0,
  .mk (some p2) none (.mv (.c .nilf)) [] 1] false
def c64_1 : CC := .reg [
  .mk (some p3) none (.mkfn 101 [(.t p1)]) [] 0,
  .mk (some p2) none (.mv (.t p3)) [] 1] false
def F64 : CF := .mk 4 [p0] 3 (.seq c64_0 (.seq c64_1 .ret)) [.t p2] 0
/- daybook/value.Parse -/
def c67_0 : CC := .reg [
  .mk (some p2) none (.alloc 34 [(.int .i64 0), (.int .i64 0), (.str [])]) [] 0,
  .mk (some p3) none (.mv (.c (.int .i64 0))) [] 1] false
def c67_1 : CC := .reg [
  .mk (some p7) none (.mv (.t p0)) [] 0,
  .mk (some p8) none (.call (.c (.fn 106 [])) [(.t p7)]) [] 1,
  .mk (some p6) none (.mv (.t p8)) [] 2,
  .mk (some p9) none (.ext 0 (.t p6)) [] 3,
  .mk (some p10) none (.ext 1 (.t p6)) [] 4,
  .mk (some p4) none (.alloc 34 [(.int .i64 0), (.int .i64 0), (.str [])]) [] 5,
  .mk none none (.store 3 (.t p4) (.t p9)) [] 6,
  .mk (some p5) none (.mv (.t p10)) [] 7] false
def c67_2 : CC := .reg [
  .mk (some p11) none (.mv (.t p5)) [] 0,
  .mk (some p12) none (.un .not (.t p11)) [] 1,
  .mk (some p13) none (.mv (.t p12)) [] 2,
  .mk (some p14) (some (p13, false)) (.load 3 true (.t p4)) [] 3,
  .mk (some p15) (some (p13, false)) (.call (.c (.fn 107 [])) [(.t p14)]) [] 4,
  .mk (some p16) (some (p13, false)) (.un .not (.t p15)) [] 5,
  .mk (some p17) none (.pick (.t p13) (.c (.bool true)) (.t p16)) [] 6] false
def c67_3 : CC := .reg [
  .mk (some p18) none (.build [(.int .i64 0), (.int .i64 0), (.str [])] []) [] 0,
  .mk none none (.store 3 (.t p2) (.t p18)) [] 1,
  .mk (some p3) none (.mv (.c (.int .i64 11))) [] 2] false
def c67_4 : CC := .reg [
  .mk (some p19) none (.load 3 true (.t p4)) [] 0,
  .mk none none (.store 3 (.t p2) (.t p19)) [] 1,
  .mk (some p3) none (.mv (.c (.int .i64 0))) [] 2] false
def F67 : CF := .mk 20 [p0] 5 (.seq c67_0 (.seq c67_1 (.seq (.seq c67_2 (.cond (.t p17) (.seq c67_3 .ret) .skip)) (.seq c67_4 .ret)))) [.cell p2 3 true, .t p3] 1
/- daybook/text.Named -/
def c68_0 : CC := .reg [
  .mk (some p1) none (.box 9 (.t p0)) [] 0,
  .mk (some p2) none (.mv (.c (.bool false))) [] 1] false
def c68_1 : CC := .reg [
  .mk (some p8) none (.load 1 false (.t p1)) [] 0,
  .mk (some p9) none (.call (.c (.fn 67 [])) [(.t p8)]) [] 1,
  .mk (some p7) none (.mv (.t p9)) [] 2,
  .mk (some p10) none (.ext 0 (.t p7)) [] 3,
  .mk (some p11) none (.ext 1 (.t p7)) [] 4,
  .mk (some p3) none (.alloc 34 [(.int .i64 0), (.int .i64 0), (.str [])]) [] 5,
  .mk none none (.store 3 (.t p3) (.t p10)) [] 6,
  .mk (some p4) none (.mv (.t p11)) [] 7] false
def c68_2 : CC := .reg [
  .mk (some p12) none (.load 1 false (.t p1)) [] 0,
  .mk (some p13) none (.len 0 (.t p12)) [] 1,
  .mk (some p14) none (.bin .lss .num (.t p13) (.c (.int .i64 1))) [] 2,
  .mk (some p15) none (.mv (.t p14)) [] 3,
  .mk (some p16) (some (p15, false)) (.load 1 false (.t p1)) [] 4,
  .mk (some p17) (some (p15, false)) (.len 0 (.t p16)) [] 5,
  .mk (some p18) (some (p15, false)) (.bin .gtr .num (.t p17) (.c (.int .i64 64))) [] 6,
  .mk (some p19) none (.pick (.t p15) (.c (.bool true)) (.t p18)) [] 7,
  .mk (some p20) none (.mv (.t p19)) [] 8,
  .mk (some p21) (some (p20, false)) (.mv (.t p4)) [] 9,
  .mk (some p22) (some (p20, false)) (.bin .eql .num (.t p21) (.c (.int .i64 0))) [] 10,
  .mk (some p23) none (.pick (.t p20) (.c (.bool true)) (.t p22)) [] 11] false
def c68_3 : CC := .reg [
  .mk (some p2) none (.mv (.c (.bool false))) [] 0] false
def c68_4 : CC := .reg [
  .mk (some p24) none (.mkfn 108 [(.t p1)]) [] 0,
  .mk (some p5) none (.mv (.t p24)) [] 1] false
def c68_5 : CC := .reg [
  .mk (some p25) none (.load 1 false (.t p1)) [] 0,
  .mk (some p26) none (.len 0 (.t p25)) [] 1,
  .mk (some p27) none (.mv (.c (.int .i64 0))) [] 2] false
def c68_6 : CC := .reg [
  .mk (some p28) none (.bin .lss .num (.t p27) (.t p26)) [] 0] false
def c68_7 : CC := .reg [
  .mk (some p29) none (.mv (.t p27)) [] 0,
  .mk (some p6) none (.mv (.t p29)) [] 1] false
def c68_8 : CC := .reg [
  .mk (some p30) none (.load 1 false (.t p1)) [] 0,
  .mk (some p31) none (.mv (.t p6)) [] 1,
  .mk (some p32) none (.index (.t p30) (.t p31)) [] 2,
  .mk (some p33) none (.bin .lss .num (.t p32) (.c (.int .u8 97))) [] 3,
  .mk (some p34) none (.mv (.t p33)) [] 4,
  .mk (some p35) (some (p34, false)) (.load 1 false (.t p1)) [] 5,
  .mk (some p36) (some (p34, false)) (.mv (.t p6)) [] 6,
  .mk (some p37) (some (p34, false)) (.index (.t p35) (.t p36)) [] 7,
  .mk (some p38) (some (p34, false)) (.bin .gtr .num (.t p37) (.c (.int .u8 122))) [] 8,
  .mk (some p39) none (.pick (.t p34) (.c (.bool true)) (.t p38)) [] 9,
  .mk (some p40) none (.mv (.t p39)) [] 10,
  .mk (some p41) (some (p40, true)) (.mv (.t p5)) [] 11,
  .mk (some p42) (some (p40, true)) (.mv (.t p6)) [] 12,
  .mk (some p43) (some (p40, true)) (.call (.t p41) [(.t p42)]) [] 13,
  .mk (some p44) (some (p40, true)) (.un .not (.t p43)) [] 14,
  .mk (some p45) none (.pick (.t p40) (.t p44) (.c (.bool false))) [] 15,
  .mk (some p46) none (.mv (.t p45)) [] 16,
  .mk (some p47) (some (p46, true)) (.load 1 false (.t p1)) [] 17,
  .mk (some p48) (some (p46, true)) (.mv (.t p6)) [] 18,
  .mk (some p49) (some (p46, true)) (.index (.t p47) (.t p48)) [] 19,
  .mk (some p50) (some (p46, true)) (.call (.c (.fn 103 [])) [(.c (.str [63, 95, 43, 45, 42, 47, 60, 62, 61, 33, 46, 37, 38])), (.t p49)]) [] 20,
  .mk (some p51) (some (p46, true)) (.bin .lss .num (.t p50) (.c (.int .i64 0))) [] 21,
  .mk (some p52) none (.pick (.t p46) (.t p51) (.c (.bool false))) [] 22] false
def c68_9 : CC := .reg [
  .mk (some p2) none (.mv (.c (.bool false))) [] 0] false
def c68_10 : CC := .reg [
  .mk (some p53) none (.bin .add .num (.t p27) (.c (.int .i64 1))) [] 0,
  .mk (some p27) none (.mv (.t p53)) [] 1] false
def c68_11 : CC := .loop (.seq c68_6 (.seq (.cond (.t p28) .skip (.exit 0)) (.seq (.blk 1 (.seq c68_7 (.seq c68_8 (.cond (.t p52) (.seq c68_9 .ret) .skip)))) c68_10)))
def c68_12 : CC := .reg [
  .mk (some p54) none (.mv (.t p5)) [] 0,
  .mk (some p55) none (.call (.t p54) [(.c (.int .i64 0))]) [] 1,
  .mk (some p56) none (.un .not (.t p55)) [] 2,
  .mk (some p57) none (.mv (.t p56)) [] 3,
  .mk (some p58) (some (p57, true)) (.load 1 false (.t p1)) [] 4,
  .mk (some p59) (some (p57, true)) (.index (.t p58) (.c (.int .i64 0))) [] 5,
  .mk (some p60) (some (p57, true)) (.call (.c (.fn 103 [])) [(.c (.str [43, 45, 33])), (.t p59)]) [] 6,
  .mk (some p61) (some (p57, true)) (.bin .lss .num (.t p60) (.c (.int .i64 0))) [] 7,
  .mk (some p62) (some (p57, true)) (.mv (.t p61)) [] 8,
  .mk (some p63) (some (p62, false)) (.mv (.t p5)) [] 9,
  .mk (some p64) (some (p62, false)) (.call (.t p63) [(.c (.int .i64 1))]) [] 10,
  .mk (some p65) (some (p62, false)) (.un .not (.t p64)) [] 11,
  .mk (some p66) (some (p57, true)) (.pick (.t p62) (.c (.bool true)) (.t p65)) [] 12,
  .mk (some p67) none (.pick (.t p57) (.t p66) (.c (.bool false))) [] 13,
  .mk (some p2) none (.mv (.t p67)) [] 14] false
def F68 : CF := .mk 68 [p0] 7 (.seq c68_0 (.seq (.seq c68_1 (.seq c68_2 (.cond (.t p23) (.seq c68_3 .ret) .skip))) (.seq c68_4 (.seq (.seq c68_5 (.blk 0 c68_11)) (.seq c68_12 .ret))))) [.t p2] 1
/- daybook/shape.item -/
def c72_0 : CC := .reg [
  .mk (some p2) none (.box 36 (.t p0)) [] 0,
  .mk (some p4) none (.alloc 44 [(.bool false), (.str []), (.bool false), (.int .i64 0), (.bool false), (.int .i64 0), (.int .i64 0), (.str []), (.bool false), .nils, (.int .i64 0)]) [] 1,
  .mk (some p5) none (.mv (.c (.bool false))) [] 2] false
def c72_1 : CC := .reg [
  .mk (some p9) none (.load 8 true (.t p2)) [] 0,
  .mk (some p10) none (.call (.c (.fn 112 [])) [(.t p9), (.c (.str [42]))]) [] 1] false
def c72_2 : CC := .reg [
  .mk (some p11) none (.build [(.bool false), (.str []), (.bool false), (.int .i64 0), (.bool false), (.int .i64 0), (.int .i64 0), (.str []), (.bool false), .nils, (.int .i64 0)] [(0, 1, (.c (.bool true)))]) [] 0,
  .mk none none (.store 11 (.t p4) (.t p11)) [] 1,
  .mk (some p5) none (.mv (.c (.bool true))) [] 2] false
def c72_3 : CC := .reg [
  .mk (some p12) none (.faddr 0 (.t p2)) [] 0,
  .mk (some p13) none (.load 1 false (.t p12)) [] 1,
  .mk (some p14) none (.bin .neq .num (.t p13) (.c (.int .i64 5))) [] 2] false
def c72_4 : CC := .reg [
  .mk (some p15) none (.load 8 true (.t p2)) [] 0,
  .mk (some p16) none (.call (.c (.fn 113 [])) [(.t p15)]) [] 1,
  .mk (some p17) none (.ext 0 (.t p16)) [] 2,
  .mk (some p18) none (.ext 1 (.t p16)) [] 3,
  .mk none none (.store 11 (.t p4) (.t p17)) [] 4,
  .mk (some p5) none (.mv (.t p18)) [] 5] false
def c72_5 : CC := .reg [
  .mk (some p19) none (.faddr 5 (.t p2)) [] 0,
  .mk (some p20) none (.load 1 false (.t p19)) [] 1,
  .mk (some p21) none (.len 1 (.t p20)) [] 2,
  .mk (some p22) none (.bin .neq .num (.t p21) (.c (.int .i64 2))) [] 3] false
def c72_6 : CC := .reg [
  .mk (some p23) none (.build [(.bool false), (.str []), (.bool false), (.int .i64 0), (.bool false), (.int .i64 0), (.int .i64 0), (.str []), (.bool false), .nils, (.int .i64 0)] []) [] 0,
  .mk none none (.store 11 (.t p4) (.t p23)) [] 1,
  .mk (some p5) none (.mv (.c (.bool false))) [] 2] false
def c72_7 : CC := .reg [
  .mk (some p25) none (.faddr 5 (.t p2)) [] 0,
  .mk (some p26) none (.load 1 false (.t p25)) [] 1,
  .mk (some p27) none (.iaddr 8 (.t p26) (.c (.int .i64 0))) [] 2,
  .mk (some p28) none (.load 8 true (.t p27)) [] 3,
  .mk (some p29) none (.call (.c (.fn 113 [])) [(.t p28)]) [] 4,
  .mk (some p24) none (.mv (.t p29)) [] 5,
  .mk (some p30) none (.ext 0 (.t p24)) [] 6,
  .mk (some p31) none (.ext 1 (.t p24)) [] 7,
  .mk (some p6) none (.alloc 44 [(.bool false), (.str []), (.bool false), (.int .i64 0), (.bool false), (.int .i64 0), (.int .i64 0), (.str []), (.bool false), .nils, (.int .i64 0)]) [] 8,
  .mk none none (.store 11 (.t p6) (.t p30)) [] 9,
  .mk (some p7) none (.mv (.t p31)) [] 10] false
def c72_8 : CC := .reg [
  .mk (some p32) none (.faddr 5 (.t p2)) [] 0,
  .mk (some p33) none (.load 1 false (.t p32)) [] 1,
  .mk (some p34) none (.iaddr 8 (.t p33) (.c (.int .i64 1))) [] 2,
  .mk (some p35) none (.load 8 true (.t p34)) [] 3,
  .mk (some p8) none (.alloc 36 [(.int .i64 0), (.int .i64 0), (.int .i64 0), (.str []), (.str []), .nils, (.int .i64 0), (.int .i64 0)]) [] 4,
  .mk none none (.store 8 (.t p8) (.t p35)) [] 5] false
def c72_9 : CC := .reg [
  .mk (some p43) none (.mv (.t p7)) [] 0,
  .mk (some p44) none (.un .not (.t p43)) [] 1,
  .mk (some p42) none (.mv (.t p44)) [] 2] false
def c72_10 : CC := .reg [
  .mk (some p45) none (.load 11 true (.t p6)) [] 0,
  .mk none none (.store 11 (.t p4) (.t p45)) [] 1,
  .mk (some p5) none (.mv (.c (.bool false))) [] 2] false
def c72_11 : CC := .reg [
  .mk (some p47) none (.faddr 0 (.t p8)) [] 0,
  .mk (some p48) none (.load 1 false (.t p47)) [] 1,
  .mk (some p49) none (.bin .eql .num (.t p48) (.c (.int .i64 4))) [] 2,
  .mk (some p46) none (.mv (.t p49)) [] 3] false
def c72_12 : CC := .reg [
  .mk (some p50) none (.faddr 8 (.t p6)) [] 0,
  .mk none none (.store 1 (.t p50) (.c (.bool true))) [] 1] false
def c72_13 : CC := .reg [
  .mk (some p52) none (.load 8 true (.t p8)) [] 0,
  .mk (some p53) none (.mv (.t p1)) [] 1,
  .mk (some p54) none (.bin .add .num (.t p53) (.c (.int .i64 1))) [] 2,
  .mk (some p55) none (.call (.c (.fn 41 [])) [(.t p52), (.t p54)]) [] 3,
  .mk (some p51) none (.mv (.t p55)) [] 4,
  .mk (some p56) none (.ext 0 (.t p51)) [] 5,
  .mk (some p57) none (.ext 1 (.t p51)) [] 6,
  .mk (some p58) none (.faddr 9 (.t p6)) [] 7,
  .mk none none (.store 1 (.t p58) (.t p56)) [] 8,
  .mk (some p7) none (.mv (.t p57)) [] 9] false
def c72_14 : CC := .reg [
  .mk (some p60) none (.load 8 true (.t p8)) [] 0,
  .mk (some p61) none (.call (.c (.fn 112 [])) [(.t p60), (.c (.str [46, 46, 46]))]) [] 1,
  .mk (some p59) none (.mv (.t p61)) [] 2] false
def c72_15 : CC := .reg [
  .mk (some p62) none (.faddr 10 (.t p6)) [] 0,
  .mk none none (.store 1 (.t p62) (.c (.int .i64 (-1)))) [] 1] false
def c72_16 : CC := .reg [
  .mk (some p37) none (.load 8 true (.t p8)) [] 0,
  .mk (some p38) none (.call (.c (.fn 114 [])) [(.t p37)]) [] 1,
  .mk (some p36) none (.mv (.t p38)) [] 2,
  .mk (some p39) none (.ext 0 (.t p36)) [] 3,
  .mk (some p40) none (.ext 1 (.t p36)) [] 4,
  .mk (some p41) none (.faddr 10 (.t p6)) [] 5,
  .mk none none (.store 1 (.t p41) (.t p39)) [] 6,
  .mk (some p7) none (.mv (.t p40)) [] 7] false
def c72_17 : CC := .reg [
  .mk (some p63) none (.load 11 true (.t p6)) [] 0,
  .mk (some p64) none (.mv (.t p7)) [] 1,
  .mk none none (.store 11 (.t p4) (.t p63)) [] 2,
  .mk (some p5) none (.mv (.t p64)) [] 3] false
def F72 : CF := .mk 65 [p0, p1] 7 (.seq c72_0 (.seq (.seq c72_1 (.cond (.t p10) (.seq c72_2 .ret) .skip)) (.seq (.seq c72_3 (.cond (.t p14) (.seq c72_4 .ret) .skip)) (.seq (.seq c72_5 (.cond (.t p22) (.seq c72_6 .ret) .skip)) (.seq c72_7 (.seq c72_8 (.seq (.blk 0 (.seq c72_9 (.cond (.t p42) (.seq c72_10 .ret) (.seq c72_11 (.cond (.t p46) (.seq c72_12 c72_13) (.seq c72_14 (.cond (.t p59) c72_15 c72_16))))))) (.seq c72_17 .ret)))))))) [.cell p4 11 true, .t p5] 1
/- daybook/shape.lists -/
def c73_0 : CC := .reg [
  .mk (some p2) none (.box 22 (.t p0)) [] 0,
  .mk (some p3) none (.box 3 (.t p1)) [] 1,
  .mk (some p4) none (.mv (.c .nilf)) [] 2] false
def c73_1 : CC := .reg [
  .mk (some p5) none (.mkfn 115 [(.t p3), (.t p2)]) [] 0,
  .mk (some p4) none (.mv (.t p5)) [] 1] false
def F73 : CF := .mk 6 [p0, p1] 3 (.seq c73_0 (.seq c73_1 .ret)) [.t p4] 0
/- daybook/shape.one -/
def c74_0 : CC := .reg [
  .mk (some p1) none (.box 44 (.t p0)) [] 0,
  .mk (some p2) none (.mv (.c (.bool false))) [] 1] false
def c74_1 : CC := .reg [
  .mk (some p6) none (.faddr 0 (.t p1)) [] 0,
  .mk (some p7) none (.load 1 false (.t p6)) [] 1] false
def c74_2 : CC := .reg [
  .mk (some p8) none (.faddr 1 (.t p1)) [] 0,
  .mk (some p9) none (.load 1 false (.t p8)) [] 1,
  .mk (some p10) none (.bin .eql .num (.t p9) (.c (.str []))) [] 2,
  .mk (some p11) none (.mv (.t p10)) [] 3,
  .mk (some p12) (some (p11, true)) (.faddr 2 (.t p1)) [] 4,
  .mk (some p13) (some (p11, true)) (.load 1 false (.t p12)) [] 5,
  .mk (some p14) (some (p11, true)) (.un .not (.t p13)) [] 6,
  .mk (some p15) none (.pick (.t p11) (.t p14) (.c (.bool false))) [] 7,
  .mk (some p16) none (.mv (.t p15)) [] 8,
  .mk (some p17) (some (p16, true)) (.faddr 3 (.t p1)) [] 9,
  .mk (some p18) (some (p16, true)) (.load 1 false (.t p17)) [] 10,
  .mk (some p19) (some (p16, true)) (.bin .eql .num (.t p18) (.c (.int .i64 0))) [] 11,
  .mk (some p20) none (.pick (.t p16) (.t p19) (.c (.bool false))) [] 12,
  .mk (some p21) none (.mv (.t p20)) [] 13,
  .mk (some p22) (some (p21, true)) (.faddr 4 (.t p1)) [] 14,
  .mk (some p23) (some (p21, true)) (.load 1 false (.t p22)) [] 15,
  .mk (some p24) (some (p21, true)) (.un .not (.t p23)) [] 16,
  .mk (some p25) none (.pick (.t p21) (.t p24) (.c (.bool false))) [] 17,
  .mk (some p26) none (.mv (.t p25)) [] 18,
  .mk (some p27) (some (p26, true)) (.faddr 5 (.t p1)) [] 19,
  .mk (some p28) (some (p26, true)) (.load 3 true (.t p27)) [] 20,
  .mk (some p29) (some (p26, true)) (.build [(.int .i64 0), (.int .i64 0), (.str [])] []) [] 21,
  .mk (some p30) (some (p26, true)) (.bin .eql (.cells [.i, .i, .s]) (.t p28) (.t p29)) [] 22,
  .mk (some p31) none (.pick (.t p26) (.t p30) (.c (.bool false))) [] 23,
  .mk (some p32) none (.mv (.t p31)) [] 24,
  .mk (some p33) (some (p32, true)) (.faddr 8 (.t p1)) [] 25,
  .mk (some p34) (some (p32, true)) (.load 1 false (.t p33)) [] 26,
  .mk (some p35) (some (p32, true)) (.un .not (.t p34)) [] 27,
  .mk (some p36) none (.pick (.t p32) (.t p35) (.c (.bool false))) [] 28,
  .mk (some p37) none (.mv (.t p36)) [] 29,
  .mk (some p38) (some (p37, true)) (.faddr 9 (.t p1)) [] 30,
  .mk (some p39) (some (p37, true)) (.load 1 false (.t p38)) [] 31,
  .mk (some p40) (some (p37, true)) (.len 1 (.t p39)) [] 32,
  .mk (some p41) (some (p37, true)) (.bin .eql .num (.t p40) (.c (.int .i64 0))) [] 33,
  .mk (some p42) none (.pick (.t p37) (.t p41) (.c (.bool false))) [] 34,
  .mk (some p43) none (.mv (.t p42)) [] 35,
  .mk (some p44) (some (p43, true)) (.faddr 10 (.t p1)) [] 36,
  .mk (some p45) (some (p43, true)) (.load 1 false (.t p44)) [] 37,
  .mk (some p46) (some (p43, true)) (.bin .eql .num (.t p45) (.c (.int .i64 0))) [] 38,
  .mk (some p47) none (.pick (.t p43) (.t p46) (.c (.bool false))) [] 39,
  .mk (some p2) none (.mv (.t p47)) [] 40] false
def c74_3 : CC := .reg [
  .mk (some p3) none (.mv (.c (.int .i64 0))) [] 0] false
def c74_4 : CC := .reg [
  .mk (some p48) none (.faddr 4 (.t p1)) [] 0,
  .mk (some p49) none (.load 1 false (.t p48)) [] 1,
  .mk (some p50) none (.faddr 8 (.t p1)) [] 2,
  .mk (some p51) none (.load 1 false (.t p50)) [] 3,
  .mk (some p52) none (.faddr 10 (.t p1)) [] 4,
  .mk (some p53) none (.load 1 false (.t p52)) [] 5,
  .mk (some p54) none (.bin .neq .num (.t p53) (.c (.int .i64 0))) [] 6,
  .mk (some p55) none (.bslice 4 1 [(.bool false)] 3 [(0, (.t p49)), (1, (.t p51)), (2, (.t p54))]) [] 7,
  .mk (some p56) none (.len 1 (.t p55)) [] 8,
  .mk (some p57) none (.mv (.c (.int .i64 0))) [] 9] false
def c74_5 : CC := .reg [
  .mk (some p58) none (.bin .lss .num (.t p57) (.t p56)) [] 0] false
def c74_6 : CC := .reg [
  .mk (some p59) none (.iaddr 1 (.t p55) (.t p57)) [] 0,
  .mk (some p60) none (.load 1 false (.t p59)) [] 1,
  .mk (some p5) none (.mv (.t p60)) [] 2] false
def c74_7 : CC := .reg [
  .mk (some p61) none (.mv (.t p5)) [] 0] false
def c74_8 : CC := .reg [
  .mk (some p62) none (.mv (.t p3)) [] 0,
  .mk (some p63) none (.bin .add .num (.t p62) (.c (.int .i64 1))) [] 1,
  .mk (some p3) none (.mv (.t p63)) [] 2] false
def c74_9 : CC := .reg [
  .mk (some p64) none (.bin .add .num (.t p57) (.c (.int .i64 1))) [] 0,
  .mk (some p57) none (.mv (.t p64)) [] 1] false
def c74_10 : CC := .loop (.seq c74_5 (.seq (.cond (.t p58) .skip (.exit 0)) (.seq (.blk 1 (.seq c74_6 (.seq c74_7 (.cond (.t p61) c74_8 .skip)))) c74_9)))
def c74_11 : CC := .reg [
  .mk (some p66) none (.mv (.t p3)) [] 0,
  .mk (some p67) none (.bin .gtr .num (.t p66) (.c (.int .i64 1))) [] 1,
  .mk (some p65) none (.mv (.t p67)) [] 2] false
def c74_12 : CC := .reg [
  .mk (some p68) none (.faddr 1 (.t p1)) [] 0,
  .mk (some p69) none (.load 1 false (.t p68)) [] 1,
  .mk (some p70) none (.call (.c (.fn 116 [])) [(.t p69)]) [] 2,
  .mk (some p71) none (.call (.c (.fn 97 [])) [(.t p70)]) [] 3,
  .mk (some p72) none (.bin .neq .num (.t p71) (.c (.int .i64 0))) [] 4,
  .mk (some p65) none (.mv (.t p72)) [] 5] false
def c74_13 : CC := .reg [
  .mk (some p73) none (.faddr 3 (.t p1)) [] 0,
  .mk (some p74) none (.load 1 false (.t p73)) [] 1,
  .mk (some p75) none (.bin .lss .num (.t p74) (.c (.int .i64 0))) [] 2,
  .mk (some p65) none (.mv (.t p75)) [] 3] false
def c74_14 : CC := .reg [
  .mk (some p76) none (.faddr 3 (.t p1)) [] 0,
  .mk (some p77) none (.load 1 false (.t p76)) [] 1,
  .mk (some p78) none (.bin .gtr .num (.t p77) (.c (.int .i64 1000))) [] 2,
  .mk (some p65) none (.mv (.t p78)) [] 3] false
def c74_15 : CC := .reg [
  .mk (some p79) none (.faddr 10 (.t p1)) [] 0,
  .mk (some p80) none (.load 1 false (.t p79)) [] 1,
  .mk (some p81) none (.bin .lss .num (.t p80) (.c (.int .i64 (-1)))) [] 2,
  .mk (some p65) none (.mv (.t p81)) [] 3] false
def c74_16 : CC := .reg [
  .mk (some p82) none (.faddr 10 (.t p1)) [] 0,
  .mk (some p83) none (.load 1 false (.t p82)) [] 1,
  .mk (some p84) none (.bin .gtr .num (.t p83) (.c (.int .i64 100))) [] 2,
  .mk (some p65) none (.mv (.t p84)) [] 3] false
def c74_17 : CC := .reg [
  .mk (some p85) none (.faddr 8 (.t p1)) [] 0,
  .mk (some p86) none (.load 1 false (.t p85)) [] 1,
  .mk (some p87) none (.un .not (.t p86)) [] 2,
  .mk (some p88) none (.mv (.t p87)) [] 3,
  .mk (some p89) (some (p88, true)) (.faddr 9 (.t p1)) [] 4,
  .mk (some p90) (some (p88, true)) (.load 1 false (.t p89)) [] 5,
  .mk (some p91) (some (p88, true)) (.len 1 (.t p90)) [] 6,
  .mk (some p92) (some (p88, true)) (.bin .gtr .num (.t p91) (.c (.int .i64 0))) [] 7,
  .mk (some p93) none (.pick (.t p88) (.t p92) (.c (.bool false))) [] 8,
  .mk (some p65) none (.mv (.t p93)) [] 9] false
def c74_18 : CC := .reg [
  .mk (some p2) none (.mv (.c (.bool false))) [] 0] false
def c74_19 : CC := .reg [
  .mk (some p95) none (.faddr 4 (.t p1)) [] 0,
  .mk (some p96) none (.load 1 false (.t p95)) [] 1,
  .mk (some p94) none (.mv (.t p96)) [] 2] false
def c74_20 : CC := .reg [
  .mk (some p97) none (.faddr 5 (.t p1)) [] 0,
  .mk (some p98) none (.load 3 true (.t p97)) [] 1,
  .mk (some p99) none (.call (.c (.fn 97 [])) [(.t p98)]) [] 2,
  .mk (some p100) none (.bin .eql .num (.t p99) (.c (.int .i64 0))) [] 3,
  .mk (some p2) none (.mv (.t p100)) [] 4] false
def c74_21 : CC := .reg [
  .mk (some p101) none (.faddr 5 (.t p1)) [] 0,
  .mk (some p102) none (.load 3 true (.t p101)) [] 1,
  .mk (some p103) none (.build [(.int .i64 0), (.int .i64 0), (.str [])] []) [] 2,
  .mk (some p104) none (.bin .eql (.cells [.i, .i, .s]) (.t p102) (.t p103)) [] 3,
  .mk (some p2) none (.mv (.t p104)) [] 4] false
def F74 : CF := .mk 105 [p0] 7 (.seq c74_0 (.seq (.seq c74_1 (.cond (.t p7) (.seq c74_2 .ret) .skip)) (.seq c74_3 (.seq (.seq c74_4 (.blk 0 c74_10)) (.seq (.blk 2 (.seq (.seq c74_11 (.cond (.t p65) .skip (.seq c74_12 (.cond (.t p65) .skip (.seq c74_13 (.cond (.t p65) .skip (.seq c74_14 (.cond (.t p65) .skip (.seq c74_15 (.cond (.t p65) .skip (.seq c74_16 (.cond (.t p65) .skip c74_17)))))))))))) (.cond (.t p65) (.seq c74_18 .ret) (.seq c74_19 (.cond (.t p94) (.seq c74_20 .ret) .skip))))) (.seq c74_21 .ret)))))) [.t p2] 1
/- slices.ContainsFunc[[]daybook/api.Item,daybook/api.Item] -/
def c75_0 : CC := .reg [
  .mk (some p4) none (.mv (.c (.bool false))) [] 0] false
def c75_1 : CC := .reg [
  .mk (some p5) none (.mv (.t p0)) [] 0,
  .mk (some p6) none (.mv (.t p1)) [] 1,
  .mk (some p7) none (.call (.c (.fn 117 [])) [(.t p5), (.t p6)]) [] 2,
  .mk (some p8) none (.bin .geq .num (.t p7) (.c (.int .i64 0))) [] 3,
  .mk (some p4) none (.mv (.t p8)) [] 4] false
def F75 : CF := .mk 9 [p0, p1] 4 (.seq c75_0 (.seq c75_1 .ret)) [.t p4] 2
/- daybook/shape.may$1 -/
def c76_0 : CC := .reg [
  .mk (some p2) none (.box 44 (.t p0)) [] 0,
  .mk (some p3) none (.mv (.c (.bool false))) [] 1] false
def c76_1 : CC := .reg [
  .mk (some p4) none (.load 11 true (.t p1)) [] 0,
  .mk (some p5) none (.load 11 true (.t p2)) [] 1,
  .mk (some p6) none (.call (.c (.fn 77 [])) [(.t p4), (.t p5)]) [] 2,
  .mk (some p3) none (.mv (.t p6)) [] 3] false
def F76 : CF := .mk 7 [p0, p1] 3 (.seq c76_0 (.seq c76_1 .ret)) [.t p3] 0
/- daybook/shape.alike -/
def c77_0 : CC := .reg [
  .mk (some p2) none (.box 44 (.t p0)) [] 0,
  .mk (some p3) none (.box 44 (.t p1)) [] 1,
  .mk (some p4) none (.mv (.c (.bool false))) [] 2] false
def c77_1 : CC := .reg [
  .mk (some p5) none (.faddr 0 (.t p2)) [] 0,
  .mk (some p6) none (.load 1 false (.t p5)) [] 1,
  .mk (some p7) none (.faddr 0 (.t p3)) [] 2,
  .mk (some p8) none (.load 1 false (.t p7)) [] 3,
  .mk (some p9) none (.bin .eql .bool (.t p6) (.t p8)) [] 4,
  .mk (some p10) none (.mv (.t p9)) [] 5,
  .mk (some p11) (some (p10, true)) (.faddr 1 (.t p2)) [] 6,
  .mk (some p12) (some (p10, true)) (.load 1 false (.t p11)) [] 7,
  .mk (some p13) (some (p10, true)) (.faddr 1 (.t p3)) [] 8,
  .mk (some p14) (some (p10, true)) (.load 1 false (.t p13)) [] 9,
  .mk (some p15) (some (p10, true)) (.bin .eql .num (.t p12) (.t p14)) [] 10,
  .mk (some p16) none (.pick (.t p10) (.t p15) (.c (.bool false))) [] 11,
  .mk (some p17) none (.mv (.t p16)) [] 12,
  .mk (some p18) (some (p17, true)) (.faddr 2 (.t p2)) [] 13,
  .mk (some p19) (some (p17, true)) (.load 1 false (.t p18)) [] 14,
  .mk (some p20) (some (p17, true)) (.faddr 2 (.t p3)) [] 15,
  .mk (some p21) (some (p17, true)) (.load 1 false (.t p20)) [] 16,
  .mk (some p22) (some (p17, true)) (.bin .eql .bool (.t p19) (.t p21)) [] 17,
  .mk (some p23) none (.pick (.t p17) (.t p22) (.c (.bool false))) [] 18,
  .mk (some p4) none (.mv (.t p23)) [] 19] false
def F77 : CF := .mk 24 [p0, p1] 5 (.seq c77_0 (.seq c77_1 .ret)) [.t p4] 1
/- slices.EqualFunc[[]daybook/api.Node,[]daybook/api.Node,daybook/api.Node,daybook/api.Node] -/
def c78_0 : CC := .reg [
  .mk (some p6) none (.mv (.c (.bool false))) [] 0] false
def c78_1 : CC := .reg [
  .mk (some p10) none (.mv (.t p0)) [] 0,
  .mk (some p11) none (.len 1 (.t p10)) [] 1,
  .mk (some p12) none (.mv (.t p1)) [] 2,
  .mk (some p13) none (.len 1 (.t p12)) [] 3,
  .mk (some p14) none (.bin .neq .num (.t p11) (.t p13)) [] 4] false
def c78_2 : CC := .reg [
  .mk (some p6) none (.mv (.c (.bool false))) [] 0] false
def c78_3 : CC := .reg [
  .mk (some p15) none (.mv (.t p0)) [] 0,
  .mk (some p16) none (.len 1 (.t p15)) [] 1,
  .mk (some p17) none (.mv (.c (.int .i64 0))) [] 2] false
def c78_4 : CC := .reg [
  .mk (some p18) none (.bin .lss .num (.t p17) (.t p16)) [] 0] false
def c78_5 : CC := .reg [
  .mk (some p19) none (.mv (.t p17)) [] 0,
  .mk (some p20) none (.iaddr 8 (.t p15) (.t p17)) [] 1,
  .mk (some p21) none (.load 8 true (.t p20)) [] 2,
  .mk (some p8) none (.alloc 36 [(.int .i64 0), (.int .i64 0), (.int .i64 0), (.str []), (.str []), .nils, (.int .i64 0), (.int .i64 0)]) [] 3,
  .mk (some p7) none (.mv (.t p19)) [] 4,
  .mk none none (.store 8 (.t p8) (.t p21)) [] 5] false
def c78_6 : CC := .reg [
  .mk (some p22) none (.mv (.t p1)) [] 0,
  .mk (some p23) none (.mv (.t p7)) [] 1,
  .mk (some p24) none (.iaddr 8 (.t p22) (.t p23)) [] 2,
  .mk (some p25) none (.load 8 true (.t p24)) [] 3,
  .mk (some p9) none (.alloc 36 [(.int .i64 0), (.int .i64 0), (.int .i64 0), (.str []), (.str []), .nils, (.int .i64 0), (.int .i64 0)]) [] 4,
  .mk none none (.store 8 (.t p9) (.t p25)) [] 5] false
def c78_7 : CC := .reg [
  .mk (some p26) none (.mv (.t p2)) [] 0,
  .mk (some p27) none (.load 8 true (.t p8)) [] 1,
  .mk (some p28) none (.load 8 true (.t p9)) [] 2,
  .mk (some p29) none (.call (.t p26) [(.t p27), (.t p28)]) [] 3,
  .mk (some p30) none (.un .not (.t p29)) [] 4] false
def c78_8 : CC := .reg [
  .mk (some p6) none (.mv (.c (.bool false))) [] 0] false
def c78_9 : CC := .reg [
  .mk (some p31) none (.bin .add .num (.t p17) (.c (.int .i64 1))) [] 0,
  .mk (some p17) none (.mv (.t p31)) [] 1] false
def c78_10 : CC := .loop (.seq c78_4 (.seq (.cond (.t p18) .skip (.exit 0)) (.seq (.blk 1 (.seq c78_5 (.seq c78_6 (.seq c78_7 (.cond (.t p30) (.seq c78_8 .ret) .skip))))) c78_9)))
def c78_11 : CC := .reg [
  .mk (some p6) none (.mv (.c (.bool true))) [] 0] false
def F78 : CF := .mk 32 [p0, p1, p2] 6 (.seq c78_0 (.seq (.seq c78_1 (.cond (.t p14) (.seq c78_2 .ret) .skip)) (.seq (.seq c78_3 (.blk 0 c78_10)) (.seq c78_11 .ret)))) [.t p6] 2
/- daybook/shape.node -/
def c79_0 : CC := .reg [
  .mk (some p1) none (.box 44 (.t p0)) [] 0,
  .mk (some p2) none (.alloc 36 [(.int .i64 0), (.int .i64 0), (.int .i64 0), (.str []), (.str []), .nils, (.int .i64 0), (.int .i64 0)]) [] 1] false
def c79_1 : CC := .reg [
  .mk (some p3) none (.alloc 36 [(.int .i64 0), (.int .i64 0), (.int .i64 0), (.str []), (.str []), .nils, (.int .i64 0), (.int .i64 0)]) [] 0] false
def c79_2 : CC := .reg [
  .mk (some p7) none (.faddr 0 (.t p1)) [] 0,
  .mk (some p8) none (.load 1 false (.t p7)) [] 1,
  .mk (some p6) none (.mv (.t p8)) [] 2] false
def c79_3 : CC := .reg [
  .mk (some p9) none (.call (.c (.fn 118 [])) [(.c (.str [42]))]) [] 0,
  .mk none none (.store 8 (.t p2) (.t p9)) [] 1] false
def c79_4 : CC := .reg [
  .mk (some p11) none (.faddr 8 (.t p1)) [] 0,
  .mk (some p12) none (.load 1 false (.t p11)) [] 1,
  .mk (some p10) none (.mv (.t p12)) [] 2] false
def c79_5 : CC := .reg [
  .mk (some p13) none (.faddr 9 (.t p1)) [] 0,
  .mk (some p14) none (.load 1 false (.t p13)) [] 1,
  .mk (some p15) none (.call (.c (.fn 44 [])) [(.t p14)]) [] 2,
  .mk none none (.store 8 (.t p3) (.t p15)) [] 3] false
def c79_6 : CC := .reg [
  .mk (some p17) none (.faddr 10 (.t p1)) [] 0,
  .mk (some p18) none (.load 1 false (.t p17)) [] 1,
  .mk (some p19) none (.bin .lss .num (.t p18) (.c (.int .i64 0))) [] 2,
  .mk (some p16) none (.mv (.t p19)) [] 3] false
def c79_7 : CC := .reg [
  .mk (some p20) none (.call (.c (.fn 118 [])) [(.c (.str [46, 46, 46]))]) [] 0,
  .mk none none (.store 8 (.t p3) (.t p20)) [] 1] false
def c79_8 : CC := .reg [
  .mk (some p22) none (.faddr 10 (.t p1)) [] 0,
  .mk (some p23) none (.load 1 false (.t p22)) [] 1,
  .mk (some p24) none (.bin .gtr .num (.t p23) (.c (.int .i64 0))) [] 2,
  .mk (some p21) none (.mv (.t p24)) [] 3] false
def c79_9 : CC := .reg [
  .mk (some p25) none (.faddr 10 (.t p1)) [] 0,
  .mk (some p26) none (.load 1 false (.t p25)) [] 1,
  .mk (some p27) none (.call (.c (.fn 119 [])) [(.t p26)]) [] 2,
  .mk none none (.store 8 (.t p3) (.t p27)) [] 3] false
def c79_10 : CC := .reg [
  .mk (some p4) none (.load 11 true (.t p1)) [] 0,
  .mk (some p5) none (.call (.c (.fn 120 [])) [(.t p4)]) [] 1,
  .mk none none (.store 8 (.t p2) (.t p5)) [] 2] false
def c79_11 : CC := .reg [
  .mk (some p28) none (.load 11 true (.t p1)) [] 0,
  .mk (some p30) none (.load 8 true (.t p3)) [2] 2,
  .mk (some p29) none (.call (.c (.fn 120 [])) [(.t p28)]) [] 1,
  .mk (some p31) none (.bslice 36 8 [(.int .i64 0), (.int .i64 0), (.int .i64 0), (.str []), (.str []), .nils, (.int .i64 0), (.int .i64 0)] 2 [(0, (.t p29)), (1, (.t p30))]) [] 3,
  .mk (some p32) none (.build [(.int .i64 0), (.int .i64 0), (.int .i64 0), (.str []), (.str []), .nils, (.int .i64 0), (.int .i64 0)] [(0, 1, (.c (.int .i64 5))), (5, 1, (.t p31))]) [] 4,
  .mk none none (.store 8 (.t p2) (.t p32)) [] 5] true
def F79 : CF := .mk 33 [p0] 6 (.seq c79_0 (.seq c79_1 (.seq (.blk 0 (.seq c79_2 (.cond (.t p6) (.seq c79_3 .ret) (.seq c79_4 (.cond (.t p10) c79_5 (.seq c79_6 (.cond (.t p16) c79_7 (.seq c79_8 (.cond (.t p21) c79_9 (.seq c79_10 .ret)))))))))) (.seq c79_11 .ret)))) [.cell p2 8 true] 1
/- (*daybook/text.writer).list -/
def c85_0 : CC := .reg [
  .mk (some p8) none (.mv (.t p1)) [] 0,
  .mk (some p9) none (.len 1 (.t p8)) [] 1,
  .mk (some p10) none (.mv (.c (.int .i64 0))) [] 2] false
def c85_1 : CC := .reg [
  .mk (some p11) none (.bin .lss .num (.t p10) (.t p9)) [] 0] false
def c85_2 : CC := .reg [
  .mk (some p12) none (.mv (.t p10)) [] 0,
  .mk (some p13) none (.iaddr 8 (.t p8) (.t p10)) [] 1,
  .mk (some p14) none (.load 8 true (.t p13)) [] 2,
  .mk (some p7) none (.alloc 36 [(.int .i64 0), (.int .i64 0), (.int .i64 0), (.str []), (.str []), .nils, (.int .i64 0), (.int .i64 0)]) [] 3,
  .mk (some p6) none (.mv (.t p12)) [] 4,
  .mk none none (.store 8 (.t p7) (.t p14)) [] 5] false
def c85_3 : CC := .reg [
  .mk (some p15) none (.mv (.t p6)) [] 0,
  .mk (some p16) none (.bin .gtr .num (.t p15) (.c (.int .i64 0))) [] 1] false
def c85_4 : CC := .reg [
  .mk (some p17) none (.mv (.t p0)) [] 0,
  .mk (some p18) none (.nilck (.t p17)) [] 1,
  .mk (some p19) none (.faddr 0 (.t p18)) [] 2,
  .mk (some p20) none (.mv (.t p2)) [] 3,
  .mk (some p21) none (.call (.c (.fn 123 [])) [(.t p19), (.t p20)]) [] 4] false
def c85_5 : CC := .reg [
  .mk (some p22) none (.mv (.t p0)) [] 0,
  .mk (some p23) none (.load 8 true (.t p7)) [] 1,
  .mk (some p24) none (.call (.c (.fn 124 [])) [(.t p22), (.t p23)]) [] 2] false
def c85_6 : CC := .reg [
  .mk (some p25) none (.mv (.t p0)) [] 0,
  .mk (some p26) none (.nilck (.t p25)) [] 1,
  .mk (some p27) none (.faddr 4 (.t p26)) [] 2,
  .mk (some p28) none (.load 1 false (.t p27)) [] 3] false
def c85_7 : CC := .reg [
  .mk (some p29) none (.bin .add .num (.t p10) (.c (.int .i64 1))) [] 0,
  .mk (some p10) none (.mv (.t p29)) [] 1] false
def c85_8 : CC := .loop (.seq c85_1 (.seq (.cond (.t p11) .skip (.exit 0)) (.seq (.blk 1 (.seq c85_2 (.seq (.seq c85_3 (.cond (.t p16) c85_4 .skip)) (.seq c85_5 (.seq c85_6 (.cond (.t p28) .ret .skip)))))) c85_7)))
def F85 : CF := .mk 30 [p0, p1, p2] 5 (.seq c85_0 (.blk 0 c85_8)) [] 0
/- daybook/value.Check -/
def c97_0 : CC := .reg [
  .mk (some p1) none (.box 34 (.t p0)) [] 0,
  .mk (some p2) none (.mv (.c (.int .i64 0))) [] 1] false
def c97_1 : CC := .reg [
  .mk (some p3) none (.load 3 true (.t p1)) [] 0,
  .mk (some p4) none (.call (.c (.fn 107 [])) [(.t p3)]) [] 1,
  .mk (some p5) none (.un .not (.t p4)) [] 2] false
def c97_2 : CC := .reg [
  .mk (some p2) none (.mv (.c (.int .i64 10))) [] 0] false
def c97_3 : CC := .reg [
  .mk (some p2) none (.mv (.c (.int .i64 0))) [] 0] false
def F97 : CF := .mk 6 [p0] 3 (.seq c97_0 (.seq (.seq c97_1 (.cond (.t p5) (.seq c97_2 .ret) .skip)) (.seq c97_3 .ret))) [.t p2] 1
/- daybook/text.tokens$1 -/
def c101_0 : CC := .reg [
  .mk (some p3) none (.mv (.c (.int .i64 1))) [] 0,
  .mk (some p4) none (.mv (.c (.int .i64 0))) [] 1] false
def c101_1 : CC := .reg [
  .mk (some p5) none (.mv (.c (.bool false))) [] 0] false
def c101_2 : CC := .reg [
  .mk (some p6) none (.mv (.c (.int .i64 0))) [] 0] false
def c101_3 : CC := .reg [
  .mk (some p13) none (.mv (.t p6)) [] 0,
  .mk (some p14) none (.load 1 false (.t p1)) [] 1,
  .mk (some p15) none (.len 0 (.t p14)) [] 2,
  .mk (some p16) none (.bin .lss .num (.t p13) (.t p15)) [] 3] false
def c101_4 : CC := .reg [
  .mk (some p17) none (.mv (.t p3)) [] 0,
  .mk (some p18) none (.mv (.t p6)) [] 1,
  .mk (some p19) none (.mv (.t p4)) [] 2,
  .mk (some p20) none (.bin .sub .num (.t p18) (.t p19)) [] 3,
  .mk (some p21) none (.bin .add .num (.t p20) (.c (.int .i64 1))) [] 4,
  .mk (some p22) none (.build [(.str []), (.int .i64 0), (.int .i64 0), (.bool false)] [(1, 1, (.t p17)), (2, 1, (.t p21))]) [] 5,
  .mk (some p7) none (.alloc 124 [(.str []), (.int .i64 0), (.int .i64 0), (.bool false)]) [] 6,
  .mk none none (.store 4 (.t p7) (.t p22)) [] 7] false
def c101_5 : CC := .reg [
  .mk (some p23) none (.load 1 false (.t p1)) [] 0,
  .mk (some p24) none (.mv (.t p6)) [] 1,
  .mk (some p25) none (.index (.t p23) (.t p24)) [] 2,
  .mk (some p8) none (.mv (.t p25)) [] 3] false
def c101_6 : CC := .reg [
  .mk (some p27) none (.mv (.t p8)) [] 0,
  .mk (some p28) none (.bin .eql .num (.t p27) (.c (.int .u8 10))) [] 1,
  .mk (some p26) none (.mv (.t p28)) [] 2] false
def c101_7 : CC := .reg [
  .mk (some p30) none (.mv (.t p8)) [] 0,
  .mk (some p31) none (.call (.c (.fn 102 [])) [(.t p30)]) [] 1,
  .mk (some p29) none (.mv (.t p31)) [] 2] false
def c101_8 : CC := .reg [
  .mk (some p33) none (.mv (.t p8)) [] 0,
  .mk (some p34) none (.bin .eql .num (.t p33) (.c (.int .u8 59))) [] 1,
  .mk (some p32) none (.mv (.t p34)) [] 2] false
def c101_9 : CC := .reg [
  .mk (some p36) none (.mv (.t p8)) [] 0,
  .mk (some p37) none (.call (.c (.fn 103 [])) [(.c (.str [40, 91, 123, 41, 93, 125])), (.t p36)]) [] 1,
  .mk (some p38) none (.bin .geq .num (.t p37) (.c (.int .i64 0))) [] 2,
  .mk (some p35) none (.mv (.t p38)) [] 3] false
def c101_10 : CC := .reg [
  .mk (some p39) none (.mv (.t p3)) [] 0,
  .mk (some p40) none (.bin .add .num (.t p39) (.c (.int .i64 1))) [] 1,
  .mk (some p3) none (.mv (.t p40)) [] 2] false
def c101_11 : CC := .reg [
  .mk (some p41) none (.mv (.t p6)) [] 0,
  .mk (some p42) none (.bin .add .num (.t p41) (.c (.int .i64 1))) [] 1,
  .mk (some p4) none (.mv (.t p42)) [] 2] false
def c101_12 : CC := .reg [
  .mk (some p5) none (.mv (.c (.bool false))) [] 0] false
def c101_13 : CC := .reg [
  .mk (some p43) none (.mv (.t p6)) [] 0,
  .mk (some p44) none (.bin .add .num (.t p43) (.c (.int .i64 1))) [] 1,
  .mk (some p6) none (.mv (.t p44)) [] 2] false
def c101_14 : CC := .reg [
  .mk (some p45) none (.mv (.t p6)) [] 0,
  .mk (some p46) none (.load 1 false (.t p1)) [] 1,
  .mk (some p47) none (.len 0 (.t p46)) [] 2,
  .mk (some p48) none (.bin .lss .num (.t p45) (.t p47)) [] 3,
  .mk (some p49) none (.mv (.t p48)) [] 4,
  .mk (some p50) (some (p49, true)) (.load 1 false (.t p1)) [] 5,
  .mk (some p51) (some (p49, true)) (.mv (.t p6)) [] 6,
  .mk (some p52) (some (p49, true)) (.index (.t p50) (.t p51)) [] 7,
  .mk (some p53) (some (p49, true)) (.bin .neq .num (.t p52) (.c (.int .u8 10))) [] 8,
  .mk (some p54) none (.pick (.t p49) (.t p53) (.c (.bool false))) [] 9] false
def c101_15 : CC := .reg [
  .mk (some p55) none (.mv (.t p6)) [] 0,
  .mk (some p56) none (.bin .add .num (.t p55) (.c (.int .i64 1))) [] 1,
  .mk (some p6) none (.mv (.t p56)) [] 2] false
def c101_16 : CC := .loop (.seq (.seq c101_14 (.cond (.t p54) .skip (.exit 8))) (.blk 9 c101_15))
def c101_17 : CC := .reg [
  .mk (some p57) none (.load 1 false (.t p1)) [] 0,
  .mk (some p58) none (.mv (.t p6)) [] 1,
  .mk (some p59) none (.mv (.t p6)) [] 2,
  .mk (some p60) none (.bin .add .num (.t p59) (.c (.int .i64 1))) [] 3,
  .mk (some p61) none (.slices (.t p57) (some (.t p58)) (some (.t p60))) [] 4,
  .mk (some p62) none (.faddr 0 (.t p7)) [] 5,
  .mk none none (.store 1 (.t p62) (.t p61)) [] 6,
  .mk (some p5) none (.mv (.c (.bool false))) [] 7] false
def c101_18 : CC := .reg [
  .mk (some p64) none (.load 1 false (.t p1)) [] 0,
  .mk (some p65) none (.mv (.t p6)) [] 1,
  .mk (some p66) none (.slices (.t p64) (some (.t p65)) none) [] 2,
  .mk (some p67) none (.call (.c (.fn 104 [])) [(.t p66)]) [] 3,
  .mk (some p63) none (.mv (.t p67)) [] 4,
  .mk (some p68) none (.ext 0 (.t p63)) [] 5,
  .mk (some p69) none (.ext 1 (.t p63)) [] 6,
  .mk (some p9) none (.mv (.t p68)) [] 7,
  .mk (some p10) none (.mv (.t p69)) [] 8] false
def c101_19 : CC := .reg [
  .mk (some p70) none (.mv (.t p5)) [] 0,
  .mk (some p71) none (.mv (.t p70)) [] 1,
  .mk (some p72) (some (p71, false)) (.mv (.t p10)) [] 2,
  .mk (some p73) (some (p71, false)) (.un .not (.t p72)) [] 3,
  .mk (some p74) none (.pick (.t p71) (.c (.bool true)) (.t p73)) [] 4,
  .mk (some p75) none (.faddr 3 (.t p7)) [] 5,
  .mk none none (.store 1 (.t p75) (.t p74)) [] 6] false
def c101_20 : CC := .reg [
  .mk (some p76) none (.mv (.t p5)) [] 0,
  .mk (some p77) none (.un .not (.t p76)) [] 1,
  .mk (some p78) none (.mv (.t p77)) [] 2,
  .mk (some p79) (some (p78, true)) (.mv (.t p10)) [] 3,
  .mk (some p80) (some (p78, true)) (.un .not (.t p79)) [] 4,
  .mk (some p81) none (.pick (.t p78) (.t p80) (.c (.bool false))) [] 5,
  .mk (some p82) none (.mv (.t p81)) [] 6,
  .mk (some p83) (some (p82, true)) (.mv (.t p8)) [] 7,
  .mk (some p84) (some (p82, true)) (.bin .eql .num (.t p83) (.c (.int .u8 34))) [] 8,
  .mk (some p85) none (.pick (.t p82) (.t p84) (.c (.bool false))) [] 9] false
def c101_21 : CC := .reg [
  .mk (some p86) none (.load 1 false (.t p1)) [] 0,
  .mk (some p87) none (.mv (.t p6)) [] 1,
  .mk (some p88) none (.slices (.t p86) (some (.t p87)) none) [] 2,
  .mk (some p89) none (.s2b (.t p88)) [] 3,
  .mk (some p90) none (.len 1 (.t p89)) [] 4,
  .mk (some p91) none (.mv (.c (.int .i64 0))) [] 5] false
def c101_22 : CC := .reg [
  .mk (some p92) none (.bin .lss .num (.t p91) (.t p90)) [] 0] false
def c101_23 : CC := .reg [
  .mk (some p93) none (.iaddr 1 (.t p89) (.t p91)) [] 0,
  .mk (some p94) none (.load 1 false (.t p93)) [] 1,
  .mk (some p12) none (.mv (.t p94)) [] 2] false
def c101_24 : CC := .reg [
  .mk (some p95) none (.mv (.t p6)) [] 0,
  .mk (some p96) none (.bin .add .num (.t p95) (.c (.int .i64 1))) [] 1,
  .mk (some p6) none (.mv (.t p96)) [] 2] false
def c101_25 : CC := .reg [
  .mk (some p97) none (.mv (.t p12)) [] 0,
  .mk (some p98) none (.bin .eql .num (.t p97) (.c (.int .u8 10))) [] 1] false
def c101_26 : CC := .reg [
  .mk (some p99) none (.mv (.t p3)) [] 0,
  .mk (some p100) none (.bin .add .num (.t p99) (.c (.int .i64 1))) [] 1,
  .mk (some p3) none (.mv (.t p100)) [] 2] false
def c101_27 : CC := .reg [
  .mk (some p101) none (.mv (.t p6)) [] 0,
  .mk (some p4) none (.mv (.t p101)) [] 1] false
def c101_28 : CC := .reg [
  .mk (some p102) none (.bin .add .num (.t p91) (.c (.int .i64 1))) [] 0,
  .mk (some p91) none (.mv (.t p102)) [] 1] false
def c101_29 : CC := .loop (.seq c101_22 (.seq (.cond (.t p92) .skip (.exit 10)) (.seq (.blk 11 (.seq c101_23 (.seq c101_24 (.seq c101_25 (.cond (.t p98) (.seq c101_26 c101_27) .skip))))) c101_28)))
def c101_30 : CC := .reg [
  .mk (some p103) none (.mv (.t p3)) [] 0,
  .mk (some p104) none (.mv (.t p6)) [] 1,
  .mk (some p105) none (.mv (.t p4)) [] 2,
  .mk (some p106) none (.bin .sub .num (.t p104) (.t p105)) [] 3,
  .mk (some p107) none (.bin .add .num (.t p106) (.c (.int .i64 1))) [] 4,
  .mk (some p108) none (.faddr 1 (.t p7)) [] 5,
  .mk none none (.store 1 (.t p108) (.t p103)) [] 6,
  .mk (some p109) none (.faddr 2 (.t p7)) [] 7,
  .mk none none (.store 1 (.t p109) (.t p107)) [] 8] false
def c101_31 : CC := .reg [
  .mk (some p110) none (.faddr 3 (.t p7)) [] 0,
  .mk (some p111) none (.load 1 false (.t p110)) [] 1] false
def c101_32 : CC := .reg [
  .mk (some p112) none (.mv (.t p0)) [] 0,
  .mk (some p113) none (.load 4 true (.t p7)) [] 1,
  .mk (some p114) none (.call (.t p112) [(.t p113)]) [] 2] false
def c101_33 : CC := .reg [
  .mk (some p115) none (.load 1 false (.t p1)) [] 0,
  .mk (some p116) none (.mv (.t p6)) [] 1,
  .mk (some p117) none (.mv (.t p6)) [] 2,
  .mk (some p118) none (.mv (.t p9)) [] 3,
  .mk (some p119) none (.bin .add .num (.t p117) (.t p118)) [] 4,
  .mk (some p120) none (.slices (.t p115) (some (.t p116)) (some (.t p119))) [] 5,
  .mk (some p121) none (.faddr 0 (.t p7)) [] 6,
  .mk none none (.store 1 (.t p121) (.t p120)) [] 7,
  .mk (some p5) none (.mv (.c (.bool true))) [] 8] false
def c101_34 : CC := .reg [
  .mk (some p122) none (.mv (.t p0)) [] 0,
  .mk (some p123) none (.load 4 true (.t p7)) [] 1,
  .mk (some p124) none (.call (.t p122) [(.t p123)]) [] 2,
  .mk (some p125) none (.un .not (.t p124)) [] 3] false
def c101_35 : CC := .reg [
  .mk (some p126) none (.mv (.t p6)) [] 0,
  .mk (some p127) none (.faddr 0 (.t p7)) [] 1,
  .mk (some p128) none (.load 1 false (.t p127)) [] 2,
  .mk (some p129) none (.len 0 (.t p128)) [] 3,
  .mk (some p130) none (.bin .add .num (.t p126) (.t p129)) [] 4,
  .mk (some p6) none (.mv (.t p130)) [] 5] false
def c101_36 : CC := .loop (.seq (.seq c101_3 (.cond (.t p16) .skip (.exit 0))) (.blk 1 (.seq c101_4 (.seq (.seq c101_5 (.blk 2 (.seq (.blk 7 (.seq (.blk 6 (.seq (.blk 5 (.seq (.blk 4 (.seq (.blk 3 (.seq (.seq (.seq c101_6 (.cond (.t p26) (.exit 3) .skip)) (.seq (.seq c101_7 (.cond (.t p29) (.exit 4) .skip)) (.seq (.seq c101_8 (.cond (.t p32) (.exit 5) .skip)) (.seq c101_9 (.cond (.t p35) (.exit 6) .skip))))) (.exit 7))) (.seq c101_10 c101_11))) (.seq (.seq c101_12 (.seq c101_13 (.exit 1))) (.exit 2)))) (.seq (.seq (.blk 8 c101_16) (.exit 1)) (.exit 2)))) (.seq c101_17 (.exit 2)))) (.seq (.seq c101_18 (.seq c101_19 (.seq (.seq c101_20 (.cond (.t p85) (.seq (.seq c101_21 (.blk 10 c101_29)) c101_30) .skip)) (.seq (.seq c101_31 (.cond (.t p111) (.seq c101_32 .ret) .skip)) c101_33)))) (.exit 2))))) (.seq (.seq c101_34 (.cond (.t p125) .ret .skip)) c101_35)))))
def c101_37 : CC := .reg [
  .mk (some p131) none (.mv (.t p0)) [] 0,
  .mk (some p132) none (.mv (.t p3)) [] 1,
  .mk (some p133) none (.load 1 false (.t p1)) [] 2,
  .mk (some p134) none (.len 0 (.t p133)) [] 3,
  .mk (some p135) none (.mv (.t p4)) [] 4,
  .mk (some p136) none (.bin .sub .num (.t p134) (.t p135)) [] 5,
  .mk (some p137) none (.bin .add .num (.t p136) (.c (.int .i64 1))) [] 6,
  .mk (some p138) none (.build [(.str []), (.int .i64 0), (.int .i64 0), (.bool false)] [(1, 1, (.t p132)), (2, 1, (.t p137))]) [] 7,
  .mk (some p139) none (.call (.t p131) [(.t p138)]) [] 8] false
def F101 : CF := .mk 140 [p0, p1] 8 (.scope (.seq c101_0 (.seq c101_1 (.seq .skip (.seq (.seq c101_2 (.blk 0 c101_36)) c101_37))))) [] 0
/- daybook/text.blank -/
def c102_0 : CC := .reg [
  .mk (some p2) none (.mv (.c (.bool false))) [] 0] false
def c102_1 : CC := .reg [
  .mk (some p3) none (.mv (.t p0)) [] 0,
  .mk (some p4) none (.bin .eql .num (.t p3) (.c (.int .u8 32))) [] 1,
  .mk (some p5) none (.mv (.t p4)) [] 2,
  .mk (some p6) (some (p5, false)) (.mv (.t p0)) [] 3,
  .mk (some p7) (some (p5, false)) (.bin .eql .num (.t p6) (.c (.int .u8 9))) [] 4,
  .mk (some p8) none (.pick (.t p5) (.c (.bool true)) (.t p7)) [] 5,
  .mk (some p9) none (.mv (.t p8)) [] 6,
  .mk (some p10) (some (p9, false)) (.mv (.t p0)) [] 7,
  .mk (some p11) (some (p9, false)) (.bin .eql .num (.t p10) (.c (.int .u8 10))) [] 8,
  .mk (some p12) none (.pick (.t p9) (.c (.bool true)) (.t p11)) [] 9,
  .mk (some p13) none (.mv (.t p12)) [] 10,
  .mk (some p14) (some (p13, false)) (.mv (.t p0)) [] 11,
  .mk (some p15) (some (p13, false)) (.bin .eql .num (.t p14) (.c (.int .u8 13))) [] 12,
  .mk (some p16) none (.pick (.t p13) (.c (.bool true)) (.t p15)) [] 13,
  .mk (some p2) none (.mv (.t p16)) [] 14] false
def F102 : CF := .mk 17 [p0] 5 (.seq c102_0 (.seq c102_1 .ret)) [.t p2] 1
/- daybook/text.size -/
def c104_0 : CC := .reg [
  .mk (some p2) none (.mv (.c (.int .i64 0))) [] 0,
  .mk (some p3) none (.mv (.c (.bool false))) [] 1] false
def c104_1 : CC := .reg [
  .mk (some p7) none (.mv (.t p0)) [] 0,
  .mk (some p8) none (.index (.t p7) (.c (.int .i64 0))) [] 1,
  .mk (some p9) none (.bin .eql .num (.t p8) (.c (.int .u8 34))) [] 2] false
def c104_2 : CC := .reg [
  .mk (some p10) none (.mv (.t p0)) [] 0,
  .mk (some p11) none (.slices (.t p10) (some (.c (.int .i64 1))) none) [] 1,
  .mk (some p12) none (.call (.c (.fn 103 [])) [(.t p11), (.c (.int .u8 34))]) [] 2,
  .mk (some p4) none (.mv (.t p12)) [] 3] false
def c104_3 : CC := .reg [
  .mk (some p13) none (.mv (.t p4)) [] 0,
  .mk (some p14) none (.bin .add .num (.t p13) (.c (.int .i64 2))) [] 1,
  .mk (some p15) none (.mv (.t p4)) [] 2,
  .mk (some p16) none (.bin .geq .num (.t p15) (.c (.int .i64 0))) [] 3,
  .mk (some p2) none (.mv (.t p14)) [] 4,
  .mk (some p3) none (.mv (.t p16)) [] 5] false
def c104_4 : CC := .reg [
  .mk (some p5) none (.mv (.c (.fn 145 []))) [] 0] false
def c104_5 : CC := .reg [
  .mk (some p6) none (.mv (.c (.int .i64 0))) [] 0] false
def c104_6 : CC := .reg [
  .mk (some p17) none (.mv (.t p6)) [] 0,
  .mk (some p18) none (.mv (.t p0)) [] 1,
  .mk (some p19) none (.len 0 (.t p18)) [] 2,
  .mk (some p20) none (.bin .lss .num (.t p17) (.t p19)) [] 3,
  .mk (some p21) none (.mv (.t p20)) [] 4,
  .mk (some p22) (some (p21, true)) (.mv (.t p5)) [] 5,
  .mk (some p23) (some (p21, true)) (.mv (.t p0)) [] 6,
  .mk (some p24) (some (p21, true)) (.mv (.t p6)) [] 7,
  .mk (some p25) (some (p21, true)) (.index (.t p23) (.t p24)) [] 8,
  .mk (some p26) (some (p21, true)) (.call (.t p22) [(.t p25)]) [] 9,
  .mk (some p27) none (.pick (.t p21) (.t p26) (.c (.bool false))) [] 10] false
def c104_7 : CC := .reg [
  .mk (some p28) none (.mv (.t p6)) [] 0,
  .mk (some p29) none (.bin .add .num (.t p28) (.c (.int .i64 1))) [] 1,
  .mk (some p6) none (.mv (.t p29)) [] 2] false
def c104_8 : CC := .loop (.seq (.seq c104_6 (.cond (.t p27) .skip (.exit 0))) (.blk 1 c104_7))
def c104_9 : CC := .reg [
  .mk (some p30) none (.mv (.t p6)) [] 0,
  .mk (some p31) none (.mv (.t p6)) [] 1,
  .mk (some p32) none (.bin .gtr .num (.t p31) (.c (.int .i64 0))) [] 2,
  .mk (some p2) none (.mv (.t p30)) [] 3,
  .mk (some p3) none (.mv (.t p32)) [] 4] false
def F104 : CF := .mk 33 [p0] 6 (.seq c104_0 (.seq (.seq c104_1 (.cond (.t p9) (.seq c104_2 (.seq c104_3 .ret)) .skip)) (.seq c104_4 (.seq c104_5 (.seq (.blk 0 c104_8) (.seq c104_9 .ret)))))) [.t p2, .t p3] 1
/- daybook/value.read -/
def c106_0 : CC := .reg [
  .mk (some p2) none (.alloc 34 [(.int .i64 0), (.int .i64 0), (.str [])]) [] 0,
  .mk (some p3) none (.alloc 4 [(.bool false)]) [] 1] false
def c106_1 : CC := .reg [
  .mk (some p18) none (.mv (.t p0)) [] 0,
  .mk (some p19) none (.bin .eql .num (.t p18) (.c (.str []))) [] 1] false
def c106_2 : CC := .reg [
  .mk (some p20) none (.build [(.int .i64 0), (.int .i64 0), (.str [])] []) [] 0,
  .mk none none (.store 3 (.t p2) (.t p20)) [] 1,
  .mk none none (.store 1 (.t p3) (.c (.bool false))) [] 2] false
def c106_3 : CC := .reg [
  .mk (some p21) none (.mv (.t p0)) [] 0,
  .mk (some p22) none (.slices (.t p21) (some (.c (.int .i64 1))) none) [] 1,
  .mk (some p4) none (.mv (.t p22)) [] 2] false
def c106_4 : CC := .reg [
  .mk (some p23) none (.mv (.t p0)) [] 0,
  .mk (some p24) none (.index (.t p23) (.c (.int .i64 0))) [] 1] false
def c106_5 : CC := .reg [
  .mk (some p26) none (.bin .eql .num (.t p24) (.c (.int .u8 116))) [] 0,
  .mk (some p25) none (.mv (.t p26)) [] 1] false
def c106_6 : CC := .reg [
  .mk (some p27) none (.bin .eql .num (.t p24) (.c (.int .u8 102))) [] 0,
  .mk (some p25) none (.mv (.t p27)) [] 1] false
def c106_7 : CC := .reg [
  .mk (some p28) none (.mv (.t p0)) [] 0,
  .mk (some p29) none (.len 0 (.t p28)) [] 1,
  .mk (some p30) none (.bin .sub .num (.c (.int .i64 5)) (.t p29)) [] 2,
  .mk (some p31) none (.build [(.int .i64 0), (.int .i64 0), (.str [])] [(0, 1, (.c (.int .i64 2))), (1, 1, (.t p30))]) [] 3,
  .mk (some p32) none (.mv (.t p0)) [] 4,
  .mk (some p33) none (.bin .eql .num (.t p32) (.c (.str [116, 114, 117, 101]))) [] 5,
  .mk (some p34) none (.mv (.t p33)) [] 6,
  .mk (some p35) (some (p34, false)) (.mv (.t p0)) [] 7,
  .mk (some p36) (some (p34, false)) (.bin .eql .num (.t p35) (.c (.str [102, 97, 108, 115, 101]))) [] 8,
  .mk (some p37) none (.pick (.t p34) (.c (.bool true)) (.t p36)) [] 9,
  .mk none none (.store 3 (.t p2) (.t p31)) [] 10,
  .mk none none (.store 1 (.t p3) (.t p37)) [] 11] false
def c106_8 : CC := .reg [
  .mk (some p39) none (.bin .eql .num (.t p24) (.c (.int .u8 64))) [] 0,
  .mk (some p38) none (.mv (.t p39)) [] 1] false
def c106_9 : CC := .reg [
  .mk (some p41) none (.mv (.t p4)) [] 0,
  .mk (some p42) none (.call (.c (.fn 149 [])) [(.t p41)]) [] 1,
  .mk (some p40) none (.mv (.t p42)) [] 2,
  .mk (some p43) none (.ext 0 (.t p40)) [] 3,
  .mk (some p44) none (.ext 1 (.t p40)) [] 4,
  .mk (some p5) none (.mv (.t p43)) [] 5,
  .mk (some p6) none (.mv (.t p44)) [] 6] false
def c106_10 : CC := .reg [
  .mk (some p45) none (.mv (.t p5)) [] 0,
  .mk (some p46) none (.build [(.int .i64 0), (.int .i64 0), (.str [])] [(0, 1, (.c (.int .i64 5))), (1, 1, (.t p45))]) [] 1,
  .mk (some p47) none (.mv (.t p6)) [] 2,
  .mk none none (.store 3 (.t p2) (.t p46)) [] 3,
  .mk none none (.store 1 (.t p3) (.t p47)) [] 4] false
def c106_11 : CC := .reg [
  .mk (some p49) none (.bin .eql .num (.t p24) (.c (.int .u8 33))) [] 0,
  .mk (some p48) none (.mv (.t p49)) [] 1] false
def c106_12 : CC := .reg [
  .mk (some p51) none (.mv (.t p4)) [] 0,
  .mk (some p52) none (.call (.c (.fn 149 [])) [(.t p51)]) [] 1,
  .mk (some p50) none (.mv (.t p52)) [] 2,
  .mk (some p53) none (.ext 0 (.t p50)) [] 3,
  .mk (some p54) none (.ext 1 (.t p50)) [] 4,
  .mk (some p7) none (.mv (.t p53)) [] 5,
  .mk (some p8) none (.mv (.t p54)) [] 6] false
def c106_13 : CC := .reg [
  .mk (some p55) none (.mv (.t p7)) [] 0,
  .mk (some p56) none (.build [(.int .i64 0), (.int .i64 0), (.str [])] [(0, 1, (.c (.int .i64 6))), (1, 1, (.t p55))]) [] 1,
  .mk (some p57) none (.mv (.t p8)) [] 2,
  .mk none none (.store 3 (.t p2) (.t p56)) [] 3,
  .mk none none (.store 1 (.t p3) (.t p57)) [] 4] false
def c106_14 : CC := .reg [
  .mk (some p59) none (.bin .eql .num (.t p24) (.c (.int .u8 58))) [] 0,
  .mk (some p58) none (.mv (.t p59)) [] 1] false
def c106_15 : CC := .reg [
  .mk (some p60) none (.mv (.t p4)) [] 0,
  .mk (some p61) none (.build [(.int .i64 0), (.int .i64 0), (.str [])] [(0, 1, (.c (.int .i64 7))), (2, 1, (.t p60))]) [] 1,
  .mk none none (.store 3 (.t p2) (.t p61)) [] 2,
  .mk none none (.store 1 (.t p3) (.c (.bool true))) [] 3] false
def c106_16 : CC := .reg [
  .mk (some p63) none (.bin .eql .num (.t p24) (.c (.int .u8 35))) [] 0,
  .mk (some p62) none (.mv (.t p63)) [] 1] false
def c106_17 : CC := .reg [
  .mk (some p9) none (.alloc 148 [.nilp, .nils]) [] 0] false
def c106_18 : CC := .reg [
  .mk (some p64) none (.mv (.t p4)) [] 0,
  .mk (some p65) none (.call (.c (.fn 150 [])) [(.t p64)]) [] 1] false
def c106_19 : CC := .reg [
  .mk (some p10) none (.mv (.t p66)) [] 0] false
def c106_20 : CC := .reg [
  .mk (some p11) none (.mv (.t p67)) [] 0] false
def c106_21 : CC := .reg [
  .mk (some p68) none (.mv (.t p11)) [] 0,
  .mk (some p69) none (.un .not (.t p68)) [] 1] false
def c106_22 : CC := .reg [
  .mk (some p70) none (.build [(.int .i64 0), (.int .i64 0), (.str [])] []) [] 0,
  .mk none none (.store 3 (.t p2) (.t p70)) [] 1,
  .mk none none (.store 1 (.t p3) (.c (.bool false))) [] 2] false
def c106_23 : CC := .reg [
  .mk (some p71) none (.mv (.t p10)) [] 0,
  .mk (some p72) none (.call (.c (.fn 151 [])) [(.t p9), (.t p71)]) [] 1] false
def c106_24 : CC := .rng (.t p65) [p66, p67] (.seq c106_19 c106_20) (.blk 2 (.seq (.seq c106_21 (.cond (.t p69) (.seq c106_22 .ret) .skip)) c106_23))
def c106_25 : CC := .reg [
  .mk (some p73) none (.call (.c (.fn 86 [])) [(.t p9)]) [] 0,
  .mk (some p74) none (.build [(.int .i64 0), (.int .i64 0), (.str [])] [(0, 1, (.c (.int .i64 4))), (2, 1, (.t p73))]) [] 1,
  .mk none none (.store 3 (.t p2) (.t p74)) [] 2,
  .mk none none (.store 1 (.t p3) (.c (.bool true))) [] 3] false
def c106_26 : CC := .reg [
  .mk (some p76) none (.bin .eql .num (.t p24) (.c (.int .u8 34))) [] 0,
  .mk (some p75) none (.mv (.t p76)) [] 1] false
def c106_27 : CC := .reg [
  .mk (some p78) none (.mv (.t p4)) [] 0,
  .mk (some p79) none (.call (.c (.fn 152 [])) [(.t p78), (.c (.str [34]))]) [] 1,
  .mk (some p77) none (.mv (.t p79)) [] 2,
  .mk (some p80) none (.ext 0 (.t p77)) [] 3,
  .mk (some p81) none (.ext 1 (.t p77)) [] 4,
  .mk (some p12) none (.mv (.t p80)) [] 5,
  .mk (some p13) none (.mv (.t p81)) [] 6] false
def c106_28 : CC := .reg [
  .mk (some p83) none (.mv (.t p12)) [] 0,
  .mk (some p84) none (.call (.c (.fn 153 [])) [(.t p83)]) [] 1,
  .mk (some p82) none (.mv (.t p84)) [] 2,
  .mk (some p85) none (.ext 0 (.t p82)) [] 3,
  .mk (some p86) none (.ext 1 (.t p82)) [] 4,
  .mk (some p14) none (.mv (.t p85)) [] 5,
  .mk (some p15) none (.mv (.t p86)) [] 6] false
def c106_29 : CC := .reg [
  .mk (some p87) none (.mv (.t p14)) [] 0,
  .mk (some p88) none (.build [(.int .i64 0), (.int .i64 0), (.str [])] [(0, 1, (.c (.int .i64 3))), (2, 1, (.t p87))]) [] 1,
  .mk (some p89) none (.mv (.t p13)) [] 2,
  .mk (some p90) none (.mv (.t p89)) [] 3,
  .mk (some p91) (some (p90, true)) (.mv (.t p15)) [] 4,
  .mk (some p92) none (.pick (.t p90) (.t p91) (.c (.bool false))) [] 5,
  .mk none none (.store 3 (.t p2) (.t p88)) [] 6,
  .mk none none (.store 1 (.t p3) (.t p92)) [] 7] false
def c106_30 : CC := .reg [
  .mk (some p94) none (.mv (.t p0)) [] 0,
  .mk (some p95) none (.call (.c (.fn 149 [])) [(.t p94)]) [] 1,
  .mk (some p93) none (.mv (.t p95)) [] 2,
  .mk (some p96) none (.ext 0 (.t p93)) [] 3,
  .mk (some p97) none (.ext 1 (.t p93)) [] 4,
  .mk (some p16) none (.mv (.t p96)) [] 5,
  .mk (some p17) none (.mv (.t p97)) [] 6] false
def c106_31 : CC := .reg [
  .mk (some p98) none (.mv (.t p16)) [] 0,
  .mk (some p99) none (.build [(.int .i64 0), (.int .i64 0), (.str [])] [(0, 1, (.c (.int .i64 1))), (1, 1, (.t p98))]) [] 1,
  .mk (some p100) none (.mv (.t p17)) [] 2,
  .mk none none (.store 3 (.t p2) (.t p99)) [] 3,
  .mk none none (.store 1 (.t p3) (.t p100)) [] 4] false
def F106 : CF := .mk 101 [p0] 7 (.seq c106_0 (.seq (.seq c106_1 (.cond (.t p19) (.seq c106_2 .ret) .skip)) (.seq c106_3 (.seq (.seq c106_4 (.blk 0 (.seq (.seq c106_5 (.cond (.t p25) .skip c106_6)) (.cond (.t p25) (.seq c106_7 .ret) (.seq c106_8 (.cond (.t p38) (.seq c106_9 (.seq c106_10 .ret)) (.seq c106_11 (.cond (.t p48) (.seq c106_12 (.seq c106_13 .ret)) (.seq c106_14 (.cond (.t p58) (.seq c106_15 .ret) (.seq c106_16 (.cond (.t p62) (.seq c106_17 (.seq (.seq c106_18 (.blk 1 c106_24)) (.seq c106_25 .ret))) (.seq c106_26 (.cond (.t p75) (.seq c106_27 (.seq c106_28 (.seq c106_29 .ret))) .skip)))))))))))))) (.seq c106_30 (.seq c106_31 .ret)))))) [.cell p2 3 true, .cell p3 1 false] 1
/- daybook/value.may -/
def c107_0 : CC := .reg [
  .mk (some p1) none (.box 34 (.t p0)) [] 0,
  .mk (some p2) none (.mv (.c (.bool false))) [] 1] false
def c107_1 : CC := .reg [
  .mk (some p3) none (.faddr 0 (.t p1)) [] 0,
  .mk (some p4) none (.load 1 false (.t p3)) [] 1] false
def c107_2 : CC := .reg [
  .mk (some p6) none (.bin .eql .num (.t p4) (.c (.int .i64 2))) [] 0,
  .mk (some p5) none (.mv (.t p6)) [] 1] false
def c107_3 : CC := .reg [
  .mk (some p8) none (.bin .eql .num (.t p4) (.c (.int .i64 1))) [] 0,
  .mk (some p7) none (.mv (.t p8)) [] 1] false
def c107_4 : CC := .reg [
  .mk (some p9) none (.bin .eql .num (.t p4) (.c (.int .i64 6))) [] 0,
  .mk (some p7) none (.mv (.t p9)) [] 1] false
def c107_5 : CC := .reg [
  .mk (some p11) none (.bin .eql .num (.t p4) (.c (.int .i64 5))) [] 0,
  .mk (some p10) none (.mv (.t p11)) [] 1] false
def c107_6 : CC := .reg [
  .mk (some p13) none (.bin .eql .num (.t p4) (.c (.int .i64 3))) [] 0,
  .mk (some p12) none (.mv (.t p13)) [] 1] false
def c107_7 : CC := .reg [
  .mk (some p14) none (.bin .eql .num (.t p4) (.c (.int .i64 4))) [] 0,
  .mk (some p12) none (.mv (.t p14)) [] 1] false
def c107_8 : CC := .reg [
  .mk (some p16) none (.bin .eql .num (.t p4) (.c (.int .i64 7))) [] 0,
  .mk (some p15) none (.mv (.t p16)) [] 1] false
def c107_9 : CC := .reg [
  .mk (some p17) none (.faddr 1 (.t p1)) [] 0,
  .mk (some p18) none (.load 1 false (.t p17)) [] 1,
  .mk (some p19) none (.bin .lss .num (.t p18) (.c (.int .i64 0))) [] 2,
  .mk (some p20) none (.mv (.t p19)) [] 3,
  .mk (some p21) (some (p20, false)) (.faddr 1 (.t p1)) [] 4,
  .mk (some p22) (some (p20, false)) (.load 1 false (.t p21)) [] 5,
  .mk (some p23) (some (p20, false)) (.bin .gtr .num (.t p22) (.c (.int .i64 1))) [] 6,
  .mk (some p24) none (.pick (.t p20) (.c (.bool true)) (.t p23)) [] 7] false
def c107_10 : CC := .reg [
  .mk (some p2) none (.mv (.c (.bool false))) [] 0] false
def c107_11 : CC := .reg [
  .mk (some p25) none (.faddr 2 (.t p1)) [] 0,
  .mk (some p26) none (.load 1 false (.t p25)) [] 1,
  .mk (some p27) none (.bin .eql .num (.t p26) (.c (.str []))) [] 2,
  .mk (some p2) none (.mv (.t p27)) [] 3] false
def c107_12 : CC := .reg [
  .mk (some p28) none (.faddr 2 (.t p1)) [] 0,
  .mk (some p29) none (.load 1 false (.t p28)) [] 1,
  .mk (some p30) none (.bin .eql .num (.t p29) (.c (.str []))) [] 2,
  .mk (some p31) none (.mv (.t p30)) [] 3,
  .mk (some p32) (some (p31, true)) (.faddr 1 (.t p1)) [] 4,
  .mk (some p33) (some (p31, true)) (.load 1 false (.t p32)) [] 5,
  .mk (some p34) (some (p31, true)) (.bin .geq .num (.t p33) (.c (.int .i64 0))) [] 6,
  .mk (some p35) none (.pick (.t p31) (.t p34) (.c (.bool false))) [] 7,
  .mk (some p36) none (.mv (.t p35)) [] 8,
  .mk (some p37) (some (p36, true)) (.faddr 1 (.t p1)) [] 9,
  .mk (some p38) (some (p36, true)) (.load 1 false (.t p37)) [] 10,
  .mk (some p39) (some (p36, true)) (.bin .lss .num (.t p38) (.c (.int .i64 9007199254740992))) [] 11,
  .mk (some p40) none (.pick (.t p36) (.t p39) (.c (.bool false))) [] 12,
  .mk (some p2) none (.mv (.t p40)) [] 13] false
def c107_13 : CC := .reg [
  .mk (some p41) none (.faddr 1 (.t p1)) [] 0,
  .mk (some p42) none (.load 1 false (.t p41)) [] 1,
  .mk (some p43) none (.bin .eql .num (.t p42) (.c (.int .i64 0))) [] 2,
  .mk (some p44) none (.mv (.t p43)) [] 3,
  .mk (some p45) (some (p44, true)) (.faddr 2 (.t p1)) [] 4,
  .mk (some p46) (some (p44, true)) (.load 1 false (.t p45)) [] 5,
  .mk (some p47) (some (p44, true)) (.len 0 (.t p46)) [] 6,
  .mk (some p48) (some (p44, true)) (.bin .leq .num (.t p47) (.c (.int .i64 1000))) [] 7,
  .mk (some p49) none (.pick (.t p44) (.t p48) (.c (.bool false))) [] 8,
  .mk (some p2) none (.mv (.t p49)) [] 9] false
def c107_14 : CC := .reg [
  .mk (some p50) none (.faddr 1 (.t p1)) [] 0,
  .mk (some p51) none (.load 1 false (.t p50)) [] 1,
  .mk (some p52) none (.bin .eql .num (.t p51) (.c (.int .i64 0))) [] 2,
  .mk (some p53) none (.mv (.t p52)) [] 3,
  .mk (some p54) (some (p53, true)) (.faddr 2 (.t p1)) [] 4,
  .mk (some p55) (some (p53, true)) (.load 1 false (.t p54)) [] 5,
  .mk (some p56) (some (p53, true)) (.call (.c (.fn 154 [])) [(.t p55)]) [] 6,
  .mk (some p57) none (.pick (.t p53) (.t p56) (.c (.bool false))) [] 7,
  .mk (some p2) none (.mv (.t p57)) [] 8] false
def c107_15 : CC := .reg [
  .mk (some p2) none (.mv (.c (.bool false))) [] 0] false
def F107 : CF := .mk 58 [p0] 6 (.seq c107_0 (.seq (.seq c107_1 (.blk 0 (.seq (.blk 5 (.seq (.blk 4 (.seq (.blk 3 (.seq (.blk 2 (.seq (.blk 1 (.seq (.seq (.seq c107_2 (.cond (.t p5) (.exit 1) .skip)) (.seq (.seq (.seq c107_3 (.cond (.t p7) .skip c107_4)) (.cond (.t p7) (.exit 2) .skip)) (.seq (.seq c107_5 (.cond (.t p10) (.exit 3) .skip)) (.seq (.seq (.seq c107_6 (.cond (.t p12) .skip c107_7)) (.cond (.t p12) (.exit 4) .skip)) (.seq c107_8 (.cond (.t p15) (.exit 5) .skip)))))) (.exit 0))) (.seq c107_9 (.cond (.t p24) (.seq c107_10 .ret) .skip)))) (.seq (.seq c107_11 .ret) (.exit 0)))) (.seq (.seq c107_12 .ret) (.exit 0)))) (.seq (.seq c107_13 .ret) (.exit 0)))) (.seq (.seq c107_14 .ret) (.exit 0))))) (.seq c107_15 .ret))) [.t p2] 1
/- daybook/text.Named$1 -/
def c108_0 : CC := .reg [
  .mk (some p3) none (.mv (.c (.bool false))) [] 0] false
def c108_1 : CC := .reg [
  .mk (some p4) none (.mv (.t p0)) [] 0,
  .mk (some p5) none (.load 1 false (.t p1)) [] 1,
  .mk (some p6) none (.len 0 (.t p5)) [] 2,
  .mk (some p7) none (.bin .lss .num (.t p4) (.t p6)) [] 3,
  .mk (some p8) none (.mv (.t p7)) [] 4,
  .mk (some p9) (some (p8, true)) (.load 1 false (.t p1)) [] 5,
  .mk (some p10) (some (p8, true)) (.mv (.t p0)) [] 6,
  .mk (some p11) (some (p8, true)) (.index (.t p9) (.t p10)) [] 7,
  .mk (some p12) (some (p8, true)) (.bin .geq .num (.t p11) (.c (.int .u8 48))) [] 8,
  .mk (some p13) none (.pick (.t p8) (.t p12) (.c (.bool false))) [] 9,
  .mk (some p14) none (.mv (.t p13)) [] 10,
  .mk (some p15) (some (p14, true)) (.load 1 false (.t p1)) [] 11,
  .mk (some p16) (some (p14, true)) (.mv (.t p0)) [] 12,
  .mk (some p17) (some (p14, true)) (.index (.t p15) (.t p16)) [] 13,
  .mk (some p18) (some (p14, true)) (.bin .leq .num (.t p17) (.c (.int .u8 57))) [] 14,
  .mk (some p19) none (.pick (.t p14) (.t p18) (.c (.bool false))) [] 15,
  .mk (some p3) none (.mv (.t p19)) [] 16] false
def F108 : CF := .mk 20 [p0, p1] 5 (.seq c108_0 (.seq c108_1 .ret)) [.t p3] 0
/- daybook/shape.is -/
def c112_0 : CC := .reg [
  .mk (some p2) none (.box 36 (.t p0)) [] 0,
  .mk (some p4) none (.mv (.c (.bool false))) [] 1] false
def c112_1 : CC := .reg [
  .mk (some p5) none (.faddr 0 (.t p2)) [] 0,
  .mk (some p6) none (.load 1 false (.t p5)) [] 1,
  .mk (some p7) none (.bin .eql .num (.t p6) (.c (.int .i64 2))) [] 2,
  .mk (some p8) none (.mv (.t p7)) [] 3,
  .mk (some p9) (some (p8, true)) (.faddr 4 (.t p2)) [] 4,
  .mk (some p10) (some (p8, true)) (.load 1 false (.t p9)) [] 5,
  .mk (some p11) (some (p8, true)) (.mv (.t p1)) [] 6,
  .mk (some p12) (some (p8, true)) (.bin .eql .num (.t p10) (.t p11)) [] 7,
  .mk (some p13) none (.pick (.t p8) (.t p12) (.c (.bool false))) [] 8,
  .mk (some p4) none (.mv (.t p13)) [] 9] false
def F112 : CF := .mk 14 [p0, p1] 4 (.seq c112_0 (.seq c112_1 .ret)) [.t p4] 1
/- daybook/shape.headed -/
def c113_0 : CC := .reg [
  .mk (some p1) none (.box 36 (.t p0)) [] 0,
  .mk (some p2) none (.alloc 44 [(.bool false), (.str []), (.bool false), (.int .i64 0), (.bool false), (.int .i64 0), (.int .i64 0), (.str []), (.bool false), .nils, (.int .i64 0)]) [] 1,
  .mk (some p3) none (.mv (.c (.bool false))) [] 2] false
def c113_1 : CC := .reg [
  .mk (some p4) none (.alloc 44 [(.bool false), (.str []), (.bool false), (.int .i64 0), (.bool false), (.int .i64 0), (.int .i64 0), (.str []), (.bool false), .nils, (.int .i64 0)]) [] 0] false
def c113_2 : CC := .reg [
  .mk (some p7) none (.load 8 true (.t p1)) [] 0,
  .mk (some p8) none (.bslice 36 8 [(.int .i64 0), (.int .i64 0), (.int .i64 0), (.str []), (.str []), .nils, (.int .i64 0), (.int .i64 0)] 1 [(0, (.t p7))]) [] 1,
  .mk (some p5) none (.mv (.t p8)) [] 2] false
def c113_3 : CC := .reg [
  .mk (some p9) none (.faddr 0 (.t p1)) [] 0,
  .mk (some p10) none (.load 1 false (.t p9)) [] 1,
  .mk (some p11) none (.bin .eql .num (.t p10) (.c (.int .i64 3))) [] 2] false
def c113_4 : CC := .reg [
  .mk (some p12) none (.faddr 5 (.t p1)) [] 0,
  .mk (some p13) none (.load 1 false (.t p12)) [] 1,
  .mk (some p5) none (.mv (.t p13)) [] 2] false
def c113_5 : CC := .reg [
  .mk (some p14) none (.mv (.t p5)) [] 0,
  .mk (some p15) none (.len 1 (.t p14)) [] 1,
  .mk (some p16) none (.bin .lss .num (.t p15) (.c (.int .i64 2))) [] 2] false
def c113_6 : CC := .reg [
  .mk (some p17) none (.load 11 true (.t p4)) [] 0,
  .mk none none (.store 11 (.t p2) (.t p17)) [] 1,
  .mk (some p3) none (.mv (.c (.bool false))) [] 2] false
def c113_7 : CC := .reg [
  .mk (some p18) none (.mv (.t p5)) [] 0,
  .mk (some p19) none (.iaddr 8 (.t p18) (.c (.int .i64 0))) [] 1,
  .mk (some p20) none (.faddr 0 (.t p19)) [] 2,
  .mk (some p21) none (.load 1 false (.t p20)) [] 3,
  .mk (some p22) none (.bin .neq .num (.t p21) (.c (.int .i64 1))) [] 4,
  .mk (some p23) none (.mv (.t p22)) [] 5,
  .mk (some p24) (some (p23, false)) (.mv (.t p5)) [] 6,
  .mk (some p25) (some (p23, false)) (.iaddr 8 (.t p24) (.c (.int .i64 0))) [] 7,
  .mk (some p26) (some (p23, false)) (.faddr 1 (.t p25)) [] 8,
  .mk (some p27) (some (p23, false)) (.faddr 0 (.t p26)) [] 9,
  .mk (some p28) (some (p23, false)) (.load 1 false (.t p27)) [] 10,
  .mk (some p29) (some (p23, false)) (.bin .neq .num (.t p28) (.c (.int .i64 7))) [] 11,
  .mk (some p30) none (.pick (.t p23) (.c (.bool true)) (.t p29)) [] 12] false
def c113_8 : CC := .reg [
  .mk (some p31) none (.load 11 true (.t p4)) [] 0,
  .mk none none (.store 11 (.t p2) (.t p31)) [] 1,
  .mk (some p3) none (.mv (.c (.bool false))) [] 2] false
def c113_9 : CC := .reg [
  .mk (some p32) none (.mv (.t p5)) [] 0,
  .mk (some p33) none (.iaddr 8 (.t p32) (.c (.int .i64 0))) [] 1,
  .mk (some p34) none (.faddr 1 (.t p33)) [] 2,
  .mk (some p35) none (.faddr 2 (.t p34)) [] 3,
  .mk (some p36) none (.load 1 false (.t p35)) [] 4,
  .mk (some p37) none (.faddr 1 (.t p4)) [] 5,
  .mk none none (.store 1 (.t p37) (.t p36)) [] 6] false
def c113_10 : CC := .reg [
  .mk (some p38) none (.mv (.t p5)) [] 0,
  .mk (some p39) none (.slice 8 (.t p38) (some (.c (.int .i64 1))) none none) [] 1,
  .mk (some p40) none (.call (.c (.fn 157 [])) [(.t p4), (.t p39)]) [] 2,
  .mk (some p6) none (.mv (.t p40)) [] 3] false
def c113_11 : CC := .reg [
  .mk (some p41) none (.load 11 true (.t p4)) [] 0,
  .mk (some p42) none (.mv (.t p6)) [] 1,
  .mk none none (.store 11 (.t p2) (.t p41)) [] 2,
  .mk (some p3) none (.mv (.t p42)) [] 3] false
def F113 : CF := .mk 43 [p0] 6 (.seq c113_0 (.seq c113_1 (.seq c113_2 (.seq (.seq c113_3 (.cond (.t p11) (.seq c113_4 (.seq c113_5 (.cond (.t p16) (.seq c113_6 .ret) .skip))) .skip)) (.seq (.seq c113_7 (.cond (.t p30) (.seq c113_8 .ret) .skip)) (.seq c113_9 (.seq c113_10 (.seq c113_11 .ret)))))))) [.cell p2 11 true, .t p3] 1
/- daybook/shape.whole -/
def c114_0 : CC := .reg [
  .mk (some p1) none (.box 36 (.t p0)) [] 0,
  .mk (some p2) none (.mv (.c (.int .i64 0))) [] 1,
  .mk (some p3) none (.mv (.c (.bool false))) [] 2] false
def c114_1 : CC := .reg [
  .mk (some p4) none (.faddr 1 (.t p1)) [] 0,
  .mk (some p5) none (.faddr 1 (.t p4)) [] 1,
  .mk (some p6) none (.load 1 false (.t p5)) [] 2,
  .mk (some p7) none (.faddr 0 (.t p1)) [] 3,
  .mk (some p8) none (.load 1 false (.t p7)) [] 4,
  .mk (some p9) none (.bin .eql .num (.t p8) (.c (.int .i64 1))) [] 5,
  .mk (some p10) none (.mv (.t p9)) [] 6,
  .mk (some p11) (some (p10, true)) (.faddr 1 (.t p1)) [] 7,
  .mk (some p12) (some (p10, true)) (.faddr 0 (.t p11)) [] 8,
  .mk (some p13) (some (p10, true)) (.load 1 false (.t p12)) [] 9,
  .mk (some p14) (some (p10, true)) (.bin .eql .num (.t p13) (.c (.int .i64 1))) [] 10,
  .mk (some p15) none (.pick (.t p10) (.t p14) (.c (.bool false))) [] 11,
  .mk (some p16) none (.mv (.t p15)) [] 12,
  .mk (some p17) (some (p16, true)) (.faddr 1 (.t p1)) [] 13,
  .mk (some p18) (some (p16, true)) (.faddr 1 (.t p17)) [] 14,
  .mk (some p19) (some (p16, true)) (.load 1 false (.t p18)) [] 15,
  .mk (some p20) (some (p16, true)) (.bin .geq .num (.t p19) (.c (.int .i64 1))) [] 16,
  .mk (some p21) none (.pick (.t p16) (.t p20) (.c (.bool false))) [] 17,
  .mk (some p22) none (.mv (.t p21)) [] 18,
  .mk (some p23) (some (p22, true)) (.faddr 1 (.t p1)) [] 19,
  .mk (some p24) (some (p22, true)) (.faddr 1 (.t p23)) [] 20,
  .mk (some p25) (some (p22, true)) (.load 1 false (.t p24)) [] 21,
  .mk (some p26) (some (p22, true)) (.bin .leq .num (.t p25) (.c (.int .i64 1000))) [] 22,
  .mk (some p27) none (.pick (.t p22) (.t p26) (.c (.bool false))) [] 23,
  .mk (some p2) none (.mv (.t p6)) [] 24,
  .mk (some p3) none (.mv (.t p27)) [] 25] true
def F114 : CF := .mk 28 [p0] 5 (.seq c114_0 (.seq c114_1 .ret)) [.t p2, .t p3] 1
/- daybook/shape.lists$1 -/
def c115_0 : CC := .reg [
  .mk (some p3) none (.box 187 (.t p0)) [] 0] false
def c115_1 : CC := .reg [
  .mk (some p8) none (.load 1 false (.t p3)) [] 0,
  .mk (some p9) none (.load 1 false (.t p1)) [] 1,
  .mk (some p10) none (.load 1 false (.t p2)) [] 2,
  .mk (some p11) none (.call (.t p8) [(.t p9), (.t p10)]) [] 3,
  .mk (some p12) none (.un .not (.t p11)) [] 4,
  .mk (some p13) none (.mv (.t p12)) [] 5,
  .mk (some p14) (some (p13, false)) (.load 1 false (.t p1)) [] 6,
  .mk (some p15) (some (p13, false)) (.bin .gtr .num (.t p14) (.c (.int .i64 20))) [] 7,
  .mk (some p16) none (.pick (.t p13) (.c (.bool true)) (.t p15)) [] 8] false
def c115_2 : CC := .reg [
  .mk (some p17) none (.load 1 false (.t p2)) [] 0,
  .mk (some p18) none (.len 1 (.t p17)) [] 1,
  .mk (some p19) none (.mv (.c (.int .i64 0))) [] 2] false
def c115_3 : CC := .reg [
  .mk (some p20) none (.bin .lss .num (.t p19) (.t p18)) [] 0] false
def c115_4 : CC := .reg [
  .mk (some p21) none (.iaddr 11 (.t p17) (.t p19)) [] 0,
  .mk (some p22) none (.load 11 true (.t p21)) [] 1,
  .mk (some p5) none (.alloc 44 [(.bool false), (.str []), (.bool false), (.int .i64 0), (.bool false), (.int .i64 0), (.int .i64 0), (.str []), (.bool false), .nils, (.int .i64 0)]) [] 2,
  .mk none none (.store 11 (.t p5) (.t p22)) [] 3] false
def c115_5 : CC := .reg [
  .mk (some p23) none (.faddr 9 (.t p5)) [] 0,
  .mk (some p24) none (.load 1 false (.t p23)) [] 1,
  .mk (some p25) none (.load 1 false (.t p1)) [] 2,
  .mk (some p26) none (.bin .add .num (.t p25) (.c (.int .i64 1))) [] 3,
  .mk (some p27) none (.call (.c (.fn 73 [])) [(.t p24), (.t p26)]) [] 4] false
def c115_6 : CC := .reg [
  .mk (some p6) none (.mv (.t p28)) [] 0] false
def c115_7 : CC := .reg [
  .mk (some p7) none (.mv (.t p29)) [] 0] false
def c115_8 : CC := .reg [
  .mk (some p30) none (.faddr 8 (.t p5)) [] 0,
  .mk (some p31) none (.load 1 false (.t p30)) [] 1,
  .mk (some p32) none (.mv (.t p31)) [] 2,
  .mk (some p33) (some (p32, true)) (.load 1 false (.t p3)) [] 3,
  .mk (some p34) (some (p32, true)) (.mv (.t p6)) [] 4,
  .mk (some p35) (some (p32, true)) (.mv (.t p7)) [] 5,
  .mk (some p36) (some (p32, true)) (.call (.t p33) [(.t p34), (.t p35)]) [] 6,
  .mk (some p37) (some (p32, true)) (.un .not (.t p36)) [] 7,
  .mk (some p38) none (.pick (.t p32) (.t p37) (.c (.bool false))) [] 8] false
def c115_9 : CC := .rng (.t p27) [p28, p29] (.seq c115_6 c115_7) (.blk 3 (.seq c115_8 (.cond (.t p38) .ret .skip)))
def c115_10 : CC := .reg [
  .mk (some p39) none (.bin .add .num (.t p19) (.c (.int .i64 1))) [] 0,
  .mk (some p19) none (.mv (.t p39)) [] 1] false
def c115_11 : CC := .loop (.seq c115_3 (.seq (.cond (.t p20) .skip (.exit 0)) (.seq (.blk 1 (.seq c115_4 (.seq c115_5 (.blk 2 c115_9)))) c115_10)))
def F115 : CF := .mk 40 [p0, p1, p2] 6 (.seq c115_0 (.seq (.seq c115_1 (.cond (.t p16) .ret .skip)) (.seq c115_2 (.blk 0 c115_11)))) [] 0
/- daybook/shape.word -/
def c116_0 : CC := .reg [
  .mk (some p2) none (.alloc 34 [(.int .i64 0), (.int .i64 0), (.str [])]) [] 0] false
def c116_1 : CC := .reg [
  .mk (some p3) none (.mv (.t p0)) [] 0,
  .mk (some p4) none (.build [(.int .i64 0), (.int .i64 0), (.str [])] [(0, 1, (.c (.int .i64 7))), (2, 1, (.t p3))]) [] 1,
  .mk none none (.store 3 (.t p2) (.t p4)) [] 2] false
def F116 : CF := .mk 5 [p0] 3 (.seq c116_0 (.seq c116_1 .ret)) [.cell p2 3 true] 1
/- slices.IndexFunc[[]daybook/api.Item,daybook/api.Item] -/
def c117_0 : CC := .reg [
  .mk (some p4) none (.mv (.c (.int .i64 0))) [] 0] false
def c117_1 : CC := .reg [
  .mk (some p6) none (.mv (.t p0)) [] 0,
  .mk (some p7) none (.len 1 (.t p6)) [] 1,
  .mk (some p8) none (.mv (.c (.int .i64 0))) [] 2] false
def c117_2 : CC := .reg [
  .mk (some p9) none (.bin .lss .num (.t p8) (.t p7)) [] 0] false
def c117_3 : CC := .reg [
  .mk (some p10) none (.mv (.t p8)) [] 0,
  .mk (some p5) none (.mv (.t p10)) [] 1] false
def c117_4 : CC := .reg [
  .mk (some p11) none (.mv (.t p1)) [] 0,
  .mk (some p12) none (.mv (.t p0)) [] 1,
  .mk (some p13) none (.mv (.t p5)) [] 2,
  .mk (some p14) none (.iaddr 11 (.t p12) (.t p13)) [] 3,
  .mk (some p15) none (.load 11 true (.t p14)) [] 4,
  .mk (some p16) none (.call (.t p11) [(.t p15)]) [] 5] false
def c117_5 : CC := .reg [
  .mk (some p17) none (.mv (.t p5)) [] 0,
  .mk (some p4) none (.mv (.t p17)) [] 1] false
def c117_6 : CC := .reg [
  .mk (some p18) none (.bin .add .num (.t p8) (.c (.int .i64 1))) [] 0,
  .mk (some p8) none (.mv (.t p18)) [] 1] false
def c117_7 : CC := .loop (.seq c117_2 (.seq (.cond (.t p9) .skip (.exit 0)) (.seq (.blk 1 (.seq c117_3 (.seq c117_4 (.cond (.t p16) (.seq c117_5 .ret) .skip)))) c117_6)))
def c117_8 : CC := .reg [
  .mk (some p4) none (.mv (.c (.int .i64 (-1)))) [] 0] false
def F117 : CF := .mk 19 [p0, p1] 5 (.seq c117_0 (.seq (.seq c117_1 (.blk 0 c117_7)) (.seq c117_8 .ret))) [.t p4] 2
/- daybook/shape.named -/
def c118_0 : CC := .reg [
  .mk (some p2) none (.alloc 36 [(.int .i64 0), (.int .i64 0), (.int .i64 0), (.str []), (.str []), .nils, (.int .i64 0), (.int .i64 0)]) [] 0] false
def c118_1 : CC := .reg [
  .mk (some p3) none (.mv (.t p0)) [] 0,
  .mk (some p4) none (.build [(.int .i64 0), (.int .i64 0), (.int .i64 0), (.str []), (.str []), .nils, (.int .i64 0), (.int .i64 0)] [(0, 1, (.c (.int .i64 2))), (4, 1, (.t p3))]) [] 1,
  .mk none none (.store 8 (.t p2) (.t p4)) [] 2] false
def F118 : CF := .mk 5 [p0] 3 (.seq c118_0 (.seq c118_1 .ret)) [.cell p2 8 true] 1
/- daybook/shape.number -/
def c119_0 : CC := .reg [
  .mk (some p2) none (.alloc 36 [(.int .i64 0), (.int .i64 0), (.int .i64 0), (.str []), (.str []), .nils, (.int .i64 0), (.int .i64 0)]) [] 0] false
def c119_1 : CC := .reg [
  .mk (some p3) none (.mv (.t p0)) [] 0,
  .mk (some p4) none (.build [(.int .i64 0), (.int .i64 0), (.str [])] [(0, 1, (.c (.int .i64 1))), (1, 1, (.t p3))]) [] 1,
  .mk (some p5) none (.call (.c (.fn 158 [])) [(.t p4)]) [] 2,
  .mk none none (.store 8 (.t p2) (.t p5)) [] 3] false
def F119 : CF := .mk 6 [p0] 3 (.seq c119_0 (.seq c119_1 .ret)) [.cell p2 8 true] 1
/- daybook/shape.head -/
def c120_0 : CC := .reg [
  .mk (some p1) none (.box 44 (.t p0)) [] 0,
  .mk (some p2) none (.alloc 36 [(.int .i64 0), (.int .i64 0), (.int .i64 0), (.str []), (.str []), .nils, (.int .i64 0), (.int .i64 0)]) [] 1] false
def c120_1 : CC := .reg [
  .mk (some p4) none (.faddr 1 (.t p1)) [] 0,
  .mk (some p5) none (.load 1 false (.t p4)) [] 1,
  .mk (some p6) none (.call (.c (.fn 116 [])) [(.t p5)]) [] 2,
  .mk (some p7) none (.call (.c (.fn 158 [])) [(.t p6)]) [] 3,
  .mk (some p8) none (.bslice 36 8 [(.int .i64 0), (.int .i64 0), (.int .i64 0), (.str []), (.str []), .nils, (.int .i64 0), (.int .i64 0)] 1 [(0, (.t p7))]) [] 4,
  .mk (some p3) none (.mv (.t p8)) [] 5] false
def c120_2 : CC := .reg [
  .mk (some p9) none (.faddr 2 (.t p1)) [] 0,
  .mk (some p10) none (.load 1 false (.t p9)) [] 1] false
def c120_3 : CC := .reg [
  .mk (some p11) none (.mv (.t p3)) [] 0,
  .mk (some p12) none (.call (.c (.fn 118 [])) [(.c (.str [98, 97, 99, 107]))]) [] 1,
  .mk (some p13) none (.bslice 36 8 [(.int .i64 0), (.int .i64 0), (.int .i64 0), (.str []), (.str []), .nils, (.int .i64 0), (.int .i64 0)] 1 [(0, (.t p12))]) [] 2,
  .mk (some p14) none (.append 36 8 (.t p11) (.t p13)) [] 3,
  .mk (some p3) none (.mv (.t p14)) [] 4] false
def c120_4 : CC := .reg [
  .mk (some p15) none (.faddr 3 (.t p1)) [] 0,
  .mk (some p16) none (.load 1 false (.t p15)) [] 1,
  .mk (some p17) none (.bin .gtr .num (.t p16) (.c (.int .i64 0))) [] 2] false
def c120_5 : CC := .reg [
  .mk (some p18) none (.mv (.t p3)) [] 0,
  .mk (some p20) none (.faddr 3 (.t p1)) [] 2,
  .mk (some p21) none (.load 1 false (.t p20)) [3] 3,
  .mk (some p19) none (.call (.c (.fn 118 [])) [(.c (.str [108, 105, 109, 105, 116]))]) [] 1,
  .mk (some p22) none (.call (.c (.fn 119 [])) [(.t p21)]) [] 4,
  .mk (some p23) none (.bslice 36 8 [(.int .i64 0), (.int .i64 0), (.int .i64 0), (.str []), (.str []), .nils, (.int .i64 0), (.int .i64 0)] 2 [(0, (.t p19)), (1, (.t p22))]) [] 5,
  .mk (some p24) none (.append 36 8 (.t p18) (.t p23)) [] 6,
  .mk (some p3) none (.mv (.t p24)) [] 7] true
def c120_6 : CC := .reg [
  .mk (some p25) none (.faddr 4 (.t p1)) [] 0,
  .mk (some p26) none (.load 1 false (.t p25)) [] 1] false
def c120_7 : CC := .reg [
  .mk (some p27) none (.mv (.t p3)) [] 0,
  .mk (some p29) none (.faddr 5 (.t p1)) [] 2,
  .mk (some p30) none (.load 3 true (.t p29)) [3] 3,
  .mk (some p28) none (.call (.c (.fn 118 [])) [(.c (.str [100, 101, 102, 97, 117, 108, 116]))]) [] 1,
  .mk (some p31) none (.call (.c (.fn 158 [])) [(.t p30)]) [] 4,
  .mk (some p32) none (.bslice 36 8 [(.int .i64 0), (.int .i64 0), (.int .i64 0), (.str []), (.str []), .nils, (.int .i64 0), (.int .i64 0)] 2 [(0, (.t p28)), (1, (.t p31))]) [] 5,
  .mk (some p33) none (.append 36 8 (.t p27) (.t p32)) [] 6,
  .mk (some p3) none (.mv (.t p33)) [] 7] true
def c120_8 : CC := .reg [
  .mk (some p34) none (.mv (.t p3)) [] 0,
  .mk (some p35) none (.len 1 (.t p34)) [] 1,
  .mk (some p36) none (.bin .eql .num (.t p35) (.c (.int .i64 1))) [] 2] false
def c120_9 : CC := .reg [
  .mk (some p37) none (.mv (.t p3)) [] 0,
  .mk (some p38) none (.iaddr 8 (.t p37) (.c (.int .i64 0))) [] 1,
  .mk (some p39) none (.load 8 true (.t p38)) [] 2,
  .mk none none (.store 8 (.t p2) (.t p39)) [] 3] false
def c120_10 : CC := .reg [
  .mk (some p40) none (.mv (.t p3)) [] 0,
  .mk (some p41) none (.build [(.int .i64 0), (.int .i64 0), (.int .i64 0), (.str []), (.str []), .nils, (.int .i64 0), (.int .i64 0)] [(0, 1, (.c (.int .i64 3))), (5, 1, (.t p40))]) [] 1,
  .mk none none (.store 8 (.t p2) (.t p41)) [] 2] false
def F120 : CF := .mk 42 [p0] 6 (.seq c120_0 (.seq c120_1 (.seq (.seq c120_2 (.cond (.t p10) c120_3 .skip)) (.seq (.seq c120_4 (.cond (.t p17) c120_5 .skip)) (.seq (.seq c120_6 (.cond (.t p26) c120_7 .skip)) (.seq (.seq c120_8 (.cond (.t p36) (.seq c120_9 .ret) .skip)) (.seq c120_10 .ret))))))) [.cell p2 8 true] 1
/- (*strings.Builder).WriteString -/
def c123_0 : CC := .reg [
  .mk (some p4) none (.mv (.c (.int .i64 0))) [] 0,
  .mk (some p5) none (.mv (.c .nili)) [] 1] false
def c123_1 : CC := .reg [
  .mk (some p6) none (.mv (.t p0)) [] 0,
  .mk (some p7) none (.call (.c (.fn 161 [])) [(.t p6)]) [] 1] false
def c123_2 : CC := .reg [
  .mk (some p8) none (.mv (.t p0)) [] 0,
  .mk (some p9) none (.mv (.t p0)) [] 1,
  .mk (some p10) none (.nilck (.t p9)) [] 2,
  .mk (some p11) none (.faddr 1 (.t p10)) [] 3,
  .mk (some p12) none (.load 1 false (.t p11)) [] 4,
  .mk (some p13) none (.mv (.t p1)) [] 5,
  .mk (some p14) none (.append 5 1 (.t p12) (.t p13)) [] 6,
  .mk (some p15) none (.nilck (.t p8)) [] 7,
  .mk (some p16) none (.faddr 1 (.t p15)) [] 8,
  .mk none none (.store 1 (.t p16) (.t p14)) [] 9] false
def c123_3 : CC := .reg [
  .mk (some p17) none (.mv (.t p1)) [] 0,
  .mk (some p18) none (.len 0 (.t p17)) [] 1,
  .mk (some p4) none (.mv (.t p18)) [] 2,
  .mk (some p5) none (.mv (.c .nili)) [] 3] false
def F123 : CF := .mk 19 [p0, p1] 5 (.seq c123_0 (.seq c123_1 (.seq c123_2 (.seq c123_3 .ret)))) [.t p4, .t p5] 0
/- (*daybook/text.writer).node -/
def c124_0 : CC := .reg [
  .mk (some p3) none (.box 36 (.t p1)) [] 0] false
def c124_1 : CC := .reg [
  .mk (some p7) none (.mv (.t p0)) [] 0,
  .mk (some p8) none (.nilck (.t p7)) [] 1,
  .mk (some p9) none (.faddr 3 (.t p8)) [] 2,
  .mk (some p10) none (.load 1 false (.t p9)) [] 3,
  .mk (some p11) none (.bin .add .num (.t p10) (.c (.int .i64 1))) [] 4,
  .mk (some p12) none (.nilck (.t p7)) [] 5,
  .mk (some p13) none (.faddr 3 (.t p12)) [] 6,
  .mk none none (.store 1 (.t p13) (.t p11)) [] 7] false
def c124_2 : CC := .reg [
  .mk (some p14) none (.mv (.t p0)) [] 0,
  .mk (some p15) none (.nilck (.t p14)) [] 1,
  .mk (some p16) none (.faddr 3 (.t p15)) [] 2,
  .mk (some p17) none (.load 1 false (.t p16)) [] 3,
  .mk (some p18) none (.bin .gtr .num (.t p17) (.c (.int .i64 5000))) [] 4,
  .mk (some p19) none (.mv (.t p18)) [] 5,
  .mk (some p20) (some (p19, false)) (.mv (.t p0)) [] 6,
  .mk (some p21) (some (p19, false)) (.nilck (.t p20)) [] 7,
  .mk (some p22) (some (p19, false)) (.faddr 2 (.t p21)) [] 8,
  .mk (some p23) (some (p19, false)) (.load 1 false (.t p22)) [] 9,
  .mk (some p24) (some (p19, false)) (.bin .gtr .num (.t p23) (.c (.int .i64 50))) [] 10,
  .mk (some p25) none (.pick (.t p19) (.c (.bool true)) (.t p24)) [] 11] false
def c124_3 : CC := .reg [
  .mk (some p26) none (.mv (.t p0)) [] 0,
  .mk (some p27) none (.nilck (.t p26)) [] 1,
  .mk (some p28) none (.faddr 4 (.t p27)) [] 2,
  .mk none none (.store 1 (.t p28) (.c (.bool true))) [] 3] false
def c124_4 : CC := .reg [
  .mk (some p29) none (.mv (.t p0)) [] 0,
  .mk (some p30) none (.nilck (.t p29)) [] 1,
  .mk (some p31) none (.faddr 4 (.t p30)) [] 2,
  .mk (some p32) none (.load 1 false (.t p31)) [] 3] false
def c124_5 : CC := .reg [
  .mk (some p33) none (.faddr 0 (.t p3)) [] 0,
  .mk (some p34) none (.load 1 false (.t p33)) [] 1] false
def c124_6 : CC := .reg [
  .mk (some p39) none (.bin .eql .num (.t p34) (.c (.int .i64 1))) [] 0,
  .mk (some p38) none (.mv (.t p39)) [] 1] false
def c124_7 : CC := .reg [
  .mk (some p41) none (.faddr 1 (.t p3)) [] 0,
  .mk (some p42) none (.load 3 true (.t p41)) [] 1,
  .mk (some p43) none (.call (.c (.fn 162 [])) [(.t p42)]) [] 2,
  .mk (some p40) none (.mv (.t p43)) [] 3,
  .mk (some p44) none (.ext 0 (.t p40)) [] 4,
  .mk (some p45) none (.ext 1 (.t p40)) [] 5,
  .mk (some p4) none (.mv (.t p44)) [] 6,
  .mk (some p5) none (.mv (.t p45)) [] 7] false
def c124_8 : CC := .reg [
  .mk (some p46) none (.mv (.t p0)) [] 0,
  .mk (some p47) none (.mv (.t p5)) [] 1,
  .mk (some p48) none (.bin .neq .num (.t p47) (.c (.int .i64 0))) [] 2,
  .mk (some p49) none (.mv (.t p48)) [] 3,
  .mk (some p50) (some (p49, false)) (.faddr 4 (.t p3)) [] 4,
  .mk (some p51) (some (p49, false)) (.load 1 false (.t p50)) [] 5,
  .mk (some p52) (some (p49, false)) (.bin .neq .num (.t p51) (.c (.str []))) [] 6,
  .mk (some p53) none (.pick (.t p49) (.c (.bool true)) (.t p52)) [] 7,
  .mk (some p54) none (.mv (.t p53)) [] 8,
  .mk (some p55) (some (p54, false)) (.faddr 5 (.t p3)) [] 9,
  .mk (some p56) (some (p54, false)) (.load 1 false (.t p55)) [] 10,
  .mk (some p57) (some (p54, false)) (.len 1 (.t p56)) [] 11,
  .mk (some p58) (some (p54, false)) (.bin .gtr .num (.t p57) (.c (.int .i64 0))) [] 12,
  .mk (some p59) none (.pick (.t p54) (.c (.bool true)) (.t p58)) [] 13,
  .mk (some p60) none (.nilck (.t p46)) [] 14,
  .mk (some p61) none (.faddr 4 (.t p60)) [] 15,
  .mk none none (.store 1 (.t p61) (.t p59)) [] 16] false
def c124_9 : CC := .reg [
  .mk (some p62) none (.mv (.t p0)) [] 0,
  .mk (some p63) none (.nilck (.t p62)) [] 1,
  .mk (some p64) none (.faddr 0 (.t p63)) [] 2,
  .mk (some p65) none (.mv (.t p4)) [] 3,
  .mk (some p66) none (.call (.c (.fn 123 [])) [(.t p64), (.t p65)]) [] 4] false
def c124_10 : CC := .reg [
  .mk (some p68) none (.bin .eql .num (.t p34) (.c (.int .i64 2))) [] 0,
  .mk (some p67) none (.mv (.t p68)) [] 1] false
def c124_11 : CC := .reg [
  .mk (some p69) none (.mv (.t p0)) [] 0,
  .mk (some p70) none (.faddr 4 (.t p3)) [] 1,
  .mk (some p71) none (.load 1 false (.t p70)) [] 2,
  .mk (some p72) none (.call (.c (.fn 68 [])) [(.t p71)]) [] 3,
  .mk (some p73) none (.un .not (.t p72)) [] 4,
  .mk (some p74) none (.mv (.t p73)) [] 5,
  .mk (some p75) (some (p74, false)) (.faddr 1 (.t p3)) [] 6,
  .mk (some p76) (some (p74, false)) (.load 3 true (.t p75)) [] 7,
  .mk (some p77) (some (p74, false)) (.build [(.int .i64 0), (.int .i64 0), (.str [])] []) [] 8,
  .mk (some p78) (some (p74, false)) (.bin .neq (.cells [.i, .i, .s]) (.t p76) (.t p77)) [] 9,
  .mk (some p79) none (.pick (.t p74) (.c (.bool true)) (.t p78)) [] 10,
  .mk (some p80) none (.mv (.t p79)) [] 11,
  .mk (some p81) (some (p80, false)) (.faddr 5 (.t p3)) [] 12,
  .mk (some p82) (some (p80, false)) (.load 1 false (.t p81)) [] 13,
  .mk (some p83) (some (p80, false)) (.len 1 (.t p82)) [] 14,
  .mk (some p84) (some (p80, false)) (.bin .gtr .num (.t p83) (.c (.int .i64 0))) [] 15,
  .mk (some p85) none (.pick (.t p80) (.c (.bool true)) (.t p84)) [] 16,
  .mk (some p86) none (.nilck (.t p69)) [] 17,
  .mk (some p87) none (.faddr 4 (.t p86)) [] 18,
  .mk none none (.store 1 (.t p87) (.t p85)) [] 19] false
def c124_12 : CC := .reg [
  .mk (some p88) none (.mv (.t p0)) [] 0,
  .mk (some p89) none (.nilck (.t p88)) [] 1,
  .mk (some p90) none (.faddr 0 (.t p89)) [] 2,
  .mk (some p91) none (.faddr 4 (.t p3)) [] 3,
  .mk (some p92) none (.load 1 false (.t p91)) [] 4,
  .mk (some p93) none (.call (.c (.fn 123 [])) [(.t p90), (.t p92)]) [] 5] true
def c124_13 : CC := .reg [
  .mk (some p95) none (.bin .eql .num (.t p34) (.c (.int .i64 3))) [] 0,
  .mk (some p94) none (.mv (.t p95)) [] 1] false
def c124_14 : CC := .reg [
  .mk (some p96) none (.bin .eql .num (.t p34) (.c (.int .i64 4))) [] 0,
  .mk (some p94) none (.mv (.t p96)) [] 1] false
def c124_15 : CC := .reg [
  .mk (some p97) none (.bin .eql .num (.t p34) (.c (.int .i64 5))) [] 0,
  .mk (some p94) none (.mv (.t p97)) [] 1] false
def c124_16 : CC := .reg [
  .mk (some p98) none (.mv (.t p0)) [] 0,
  .mk (some p99) none (.faddr 4 (.t p3)) [] 1,
  .mk (some p100) none (.load 1 false (.t p99)) [] 2,
  .mk (some p101) none (.bin .neq .num (.t p100) (.c (.str []))) [] 3,
  .mk (some p102) none (.mv (.t p101)) [] 4,
  .mk (some p103) (some (p102, false)) (.faddr 1 (.t p3)) [] 5,
  .mk (some p104) (some (p102, false)) (.load 3 true (.t p103)) [] 6,
  .mk (some p105) (some (p102, false)) (.build [(.int .i64 0), (.int .i64 0), (.str [])] []) [] 7,
  .mk (some p106) (some (p102, false)) (.bin .neq (.cells [.i, .i, .s]) (.t p104) (.t p105)) [] 8,
  .mk (some p107) none (.pick (.t p102) (.c (.bool true)) (.t p106)) [] 9,
  .mk (some p108) none (.mv (.t p107)) [] 10,
  .mk (some p109) (some (p108, false)) (.mv (.t p0)) [] 11,
  .mk (some p110) (some (p108, false)) (.nilck (.t p109)) [] 12,
  .mk (some p111) (some (p108, false)) (.faddr 2 (.t p110)) [] 13,
  .mk (some p112) (some (p108, false)) (.load 1 false (.t p111)) [] 14,
  .mk (some p113) (some (p108, false)) (.bin .eql .num (.t p112) (.c (.int .i64 50))) [] 15,
  .mk (some p114) none (.pick (.t p108) (.c (.bool true)) (.t p113)) [] 16,
  .mk (some p115) none (.nilck (.t p98)) [] 17,
  .mk (some p116) none (.faddr 4 (.t p115)) [] 18,
  .mk none none (.store 1 (.t p116) (.t p114)) [] 19] false
def c124_17 : CC := .reg [
  .mk (some p117) none (.faddr 0 (.t p3)) [] 0,
  .mk (some p118) none (.load 1 false (.t p117)) [] 1,
  .mk (some p119) none (.bin .sub .num (.t p118) (.c (.int .i64 3))) [] 2,
  .mk (some p6) none (.mv (.t p119)) [] 3] false
def c124_18 : CC := .reg [
  .mk (some p120) none (.mv (.t p0)) [] 0,
  .mk (some p121) none (.nilck (.t p120)) [] 1,
  .mk (some p122) none (.faddr 2 (.t p121)) [] 2,
  .mk (some p123) none (.load 1 false (.t p122)) [] 3,
  .mk (some p124) none (.bin .add .num (.t p123) (.c (.int .i64 1))) [] 4,
  .mk (some p125) none (.nilck (.t p120)) [] 5,
  .mk (some p126) none (.faddr 2 (.t p125)) [] 6,
  .mk none none (.store 1 (.t p126) (.t p124)) [] 7] false
def c124_19 : CC := .reg [
  .mk (some p127) none (.mv (.t p0)) [] 0,
  .mk (some p128) none (.nilck (.t p127)) [] 1,
  .mk (some p129) none (.faddr 0 (.t p128)) [] 2,
  .mk (some p130) none (.mv (.t p6)) [] 3,
  .mk (some p131) none (.index (.c (.str [40, 91, 123])) (.t p130)) [] 4,
  .mk (some p132) none (.call (.c (.fn 151 [])) [(.t p129), (.t p131)]) [] 5] true
def c124_20 : CC := .reg [
  .mk (some p133) none (.mv (.t p0)) [] 0,
  .mk (some p134) none (.faddr 5 (.t p3)) [] 1,
  .mk (some p135) none (.load 1 false (.t p134)) [] 2,
  .mk (some p136) none (.call (.c (.fn 85 [])) [(.t p133), (.t p135), (.c (.str [32]))]) [] 3] false
def c124_21 : CC := .reg [
  .mk (some p137) none (.mv (.t p0)) [] 0,
  .mk (some p138) none (.nilck (.t p137)) [] 1,
  .mk (some p139) none (.faddr 0 (.t p138)) [] 2,
  .mk (some p140) none (.mv (.t p6)) [] 3,
  .mk (some p141) none (.index (.c (.str [41, 93, 125])) (.t p140)) [] 4,
  .mk (some p142) none (.call (.c (.fn 151 [])) [(.t p139), (.t p141)]) [] 5] true
def c124_22 : CC := .reg [
  .mk (some p143) none (.mv (.t p0)) [] 0,
  .mk (some p144) none (.nilck (.t p143)) [] 1,
  .mk (some p145) none (.faddr 2 (.t p144)) [] 2,
  .mk (some p146) none (.load 1 false (.t p145)) [] 3,
  .mk (some p147) none (.bin .sub .num (.t p146) (.c (.int .i64 1))) [] 4,
  .mk (some p148) none (.nilck (.t p143)) [] 5,
  .mk (some p149) none (.faddr 2 (.t p148)) [] 6,
  .mk none none (.store 1 (.t p149) (.t p147)) [] 7] false
def c124_23 : CC := .reg [
  .mk (some p35) none (.mv (.t p0)) [] 0,
  .mk (some p36) none (.nilck (.t p35)) [] 1,
  .mk (some p37) none (.faddr 4 (.t p36)) [] 2,
  .mk none none (.store 1 (.t p37) (.c (.bool true))) [] 3] false
def F124 : CF := .mk 150 [p0, p1] 8 (.seq c124_0 (.seq (.seq c124_1 (.seq c124_2 (.cond (.t p25) c124_3 .skip))) (.seq (.seq c124_4 (.cond (.t p32) .ret .skip)) (.seq c124_5 (.blk 0 (.seq c124_6 (.cond (.t p38) (.seq c124_7 (.seq c124_8 c124_9)) (.seq c124_10 (.cond (.t p67) (.seq c124_11 c124_12) (.seq (.seq c124_13 (.cond (.t p94) .skip (.seq c124_14 (.cond (.t p94) .skip c124_15)))) (.cond (.t p94) (.seq c124_16 (.seq c124_17 (.seq c124_18 (.seq c124_19 (.seq c124_20 (.seq c124_21 c124_22)))))) c124_23))))))))))) [] 0
/- daybook/text.size$1 -/
def c145_0 : CC := .reg [
  .mk (some p2) none (.mv (.c (.bool false))) [] 0] false
def c145_1 : CC := .reg [
  .mk (some p3) none (.mv (.t p0)) [] 0,
  .mk (some p4) none (.bin .gtr .num (.t p3) (.c (.int .u8 32))) [] 1,
  .mk (some p5) none (.mv (.t p4)) [] 2,
  .mk (some p6) (some (p5, true)) (.mv (.t p0)) [] 3,
  .mk (some p7) (some (p5, true)) (.bin .leq .num (.t p6) (.c (.int .u8 126))) [] 4,
  .mk (some p8) none (.pick (.t p5) (.t p7) (.c (.bool false))) [] 5,
  .mk (some p9) none (.mv (.t p8)) [] 6,
  .mk (some p10) (some (p9, true)) (.mv (.t p0)) [] 7,
  .mk (some p11) (some (p9, true)) (.call (.c (.fn 103 [])) [(.c (.str [40, 41, 91, 93, 123, 125, 34, 59])), (.t p10)]) [] 8,
  .mk (some p12) (some (p9, true)) (.bin .lss .num (.t p11) (.c (.int .i64 0))) [] 9,
  .mk (some p13) none (.pick (.t p9) (.t p12) (.c (.bool false))) [] 10,
  .mk (some p2) none (.mv (.t p13)) [] 11] false
def F145 : CF := .mk 14 [p0] 4 (.seq c145_0 (.seq c145_1 .ret)) [.t p2] 0
/- daybook/value.number -/
def c149_0 : CC := .reg [
  .mk (some p2) none (.mv (.c (.int .i64 0))) [] 0,
  .mk (some p3) none (.mv (.c (.bool false))) [] 1] false
def c149_1 : CC := .reg [
  .mk (some p7) none (.mv (.t p0)) [] 0,
  .mk (some p8) none (.call (.c (.fn 185 [])) [(.t p7), (.c (.int .i64 10)), (.c (.int .i64 64))]) [] 1,
  .mk (some p6) none (.mv (.t p8)) [] 2,
  .mk (some p9) none (.ext 0 (.t p6)) [] 3,
  .mk (some p10) none (.ext 1 (.t p6)) [] 4,
  .mk (some p4) none (.mv (.t p9)) [] 5,
  .mk (some p5) none (.mv (.t p10)) [] 6] false
def c149_2 : CC := .reg [
  .mk (some p11) none (.mv (.t p4)) [] 0,
  .mk (some p12) none (.mv (.t p5)) [] 1,
  .mk (some p13) none (.bin .eql .iface (.t p12) (.c .nili)) [] 2,
  .mk (some p14) none (.mv (.t p13)) [] 3,
  .mk (some p15) (some (p14, true)) (.mv (.t p4)) [] 4,
  .mk (some p16) (some (p14, true)) (.call (.c (.fn 186 [])) [(.t p15), (.c (.int .i64 10))]) [] 5,
  .mk (some p17) (some (p14, true)) (.mv (.t p0)) [] 6,
  .mk (some p18) (some (p14, true)) (.bin .eql .num (.t p16) (.t p17)) [] 7,
  .mk (some p19) none (.pick (.t p14) (.t p18) (.c (.bool false))) [] 8,
  .mk (some p2) none (.mv (.t p11)) [] 9,
  .mk (some p3) none (.mv (.t p19)) [] 10] false
def F149 : CF := .mk 20 [p0] 5 (.seq c149_0 (.seq c149_1 (.seq c149_2 .ret))) [.t p2, .t p3] 1
/- daybook/value.pairs -/
def c150_0 : CC := .reg [
  .mk (some p1) none (.box 9 (.t p0)) [] 0,
  .mk (some p2) none (.mv (.c .nilf)) [] 1] false
def c150_1 : CC := .reg [
  .mk (some p3) none (.mkfn 187 [(.t p1)]) [] 0,
  .mk (some p2) none (.mv (.t p3)) [] 1] false
def F150 : CF := .mk 4 [p0] 3 (.seq c150_0 (.seq c150_1 .ret)) [.t p2] 0
/- (*strings.Builder).WriteByte -/
def c151_0 : CC := .reg [
  .mk (some p4) none (.mv (.c .nili)) [] 0] false
def c151_1 : CC := .reg [
  .mk (some p5) none (.mv (.t p0)) [] 0,
  .mk (some p6) none (.call (.c (.fn 161 [])) [(.t p5)]) [] 1] false
def c151_2 : CC := .reg [
  .mk (some p7) none (.mv (.t p0)) [] 0,
  .mk (some p8) none (.mv (.t p0)) [] 1,
  .mk (some p9) none (.nilck (.t p8)) [] 2,
  .mk (some p10) none (.faddr 1 (.t p9)) [] 3,
  .mk (some p11) none (.load 1 false (.t p10)) [] 4,
  .mk (some p12) none (.mv (.t p1)) [] 5,
  .mk (some p13) none (.bslice 5 1 [(.int .u8 0)] 1 [(0, (.t p12))]) [] 6,
  .mk (some p14) none (.append 5 1 (.t p11) (.t p13)) [] 7,
  .mk (some p15) none (.nilck (.t p7)) [] 8,
  .mk (some p16) none (.faddr 1 (.t p15)) [] 9,
  .mk none none (.store 1 (.t p16) (.t p14)) [] 10] false
def c151_3 : CC := .reg [
  .mk (some p4) none (.mv (.c .nili)) [] 0] false
def F151 : CF := .mk 17 [p0, p1] 5 (.seq c151_0 (.seq c151_1 (.seq c151_2 (.seq c151_3 .ret)))) [.t p4] 0
/- strings.CutSuffix -/
def c152_0 : CC := .reg [
  .mk (some p4) none (.mv (.c (.str []))) [] 0,
  .mk (some p5) none (.mv (.c (.bool false))) [] 1] false
def c152_1 : CC := .reg [
  .mk (some p6) none (.mv (.t p0)) [] 0,
  .mk (some p7) none (.mv (.t p1)) [] 1,
  .mk (some p8) none (.call (.c (.fn 189 [])) [(.t p6), (.t p7)]) [] 2,
  .mk (some p9) none (.ext 0 (.t p8)) [] 3,
  .mk (some p10) none (.ext 1 (.t p8)) [] 4,
  .mk (some p4) none (.mv (.t p9)) [] 5,
  .mk (some p5) none (.mv (.t p10)) [] 6] false
def F152 : CF := .mk 11 [p0, p1] 4 (.seq c152_0 (.seq c152_1 .ret)) [.t p4, .t p5] 1
/- daybook/value.quoted -/
def c153_0 : CC := .reg [
  .mk (some p2) none (.mv (.c (.str []))) [] 0,
  .mk (some p3) none (.mv (.c (.bool false))) [] 1] false
def c153_1 : CC := .reg [
  .mk (some p4) none (.alloc 148 [.nilp, .nils]) [] 0] false
def c153_2 : CC := .reg [
  .mk (some p5) none (.mv (.c (.int .i64 0))) [] 0] false
def c153_3 : CC := .reg [
  .mk (some p8) none (.mv (.t p5)) [] 0,
  .mk (some p9) none (.mv (.t p0)) [] 1,
  .mk (some p10) none (.len 0 (.t p9)) [] 2,
  .mk (some p11) none (.bin .lss .num (.t p8) (.t p10)) [] 3] false
def c153_4 : CC := .reg [
  .mk (some p12) none (.mv (.t p0)) [] 0,
  .mk (some p13) none (.mv (.t p5)) [] 1,
  .mk (some p14) none (.index (.t p12) (.t p13)) [] 2,
  .mk (some p15) none (.call (.c (.fn 190 [])) [(.t p14)]) [] 3] false
def c153_5 : CC := .reg [
  .mk (some p16) none (.mv (.t p0)) [] 0,
  .mk (some p17) none (.mv (.t p5)) [] 1,
  .mk (some p18) none (.index (.t p16) (.t p17)) [] 2,
  .mk (some p19) none (.call (.c (.fn 151 [])) [(.t p4), (.t p18)]) [] 3] false
def c153_6 : CC := .reg [
  .mk (some p20) none (.mv (.t p5)) [] 0,
  .mk (some p21) none (.bin .add .num (.t p20) (.c (.int .i64 1))) [] 1,
  .mk (some p5) none (.mv (.t p21)) [] 2] false
def c153_7 : CC := .reg [
  .mk (some p23) none (.mv (.t p0)) [] 0,
  .mk (some p24) none (.mv (.t p5)) [] 1,
  .mk (some p25) none (.bin .add .num (.t p24) (.c (.int .i64 1))) [] 2,
  .mk (some p26) none (.slices (.t p23) (some (.t p25)) none) [] 3,
  .mk (some p27) none (.call (.c (.fn 188 [])) [(.t p26)]) [] 4,
  .mk (some p22) none (.mv (.t p27)) [] 5,
  .mk (some p28) none (.ext 0 (.t p22)) [] 6,
  .mk (some p29) none (.ext 1 (.t p22)) [] 7,
  .mk (some p6) none (.mv (.t p28)) [] 8,
  .mk (some p7) none (.mv (.t p29)) [] 9] false
def c153_8 : CC := .reg [
  .mk (some p30) none (.mv (.t p0)) [] 0,
  .mk (some p31) none (.mv (.t p5)) [] 1,
  .mk (some p32) none (.index (.t p30) (.t p31)) [] 2,
  .mk (some p33) none (.bin .neq .num (.t p32) (.c (.int .u8 92))) [] 3,
  .mk (some p34) none (.mv (.t p33)) [] 4,
  .mk (some p35) (some (p34, false)) (.mv (.t p7)) [] 5,
  .mk (some p36) (some (p34, false)) (.un .not (.t p35)) [] 6,
  .mk (some p37) none (.pick (.t p34) (.c (.bool true)) (.t p36)) [] 7,
  .mk (some p38) none (.mv (.t p37)) [] 8,
  .mk (some p39) (some (p38, false)) (.mv (.t p6)) [] 9,
  .mk (some p40) (some (p38, false)) (.call (.c (.fn 190 [])) [(.t p39)]) [] 10,
  .mk (some p41) none (.pick (.t p38) (.c (.bool true)) (.t p40)) [] 11] false
def c153_9 : CC := .reg [
  .mk (some p2) none (.mv (.c (.str []))) [] 0,
  .mk (some p3) none (.mv (.c (.bool false))) [] 1] false
def c153_10 : CC := .reg [
  .mk (some p42) none (.mv (.t p6)) [] 0,
  .mk (some p43) none (.call (.c (.fn 151 [])) [(.t p4), (.t p42)]) [] 1] false
def c153_11 : CC := .reg [
  .mk (some p44) none (.mv (.t p5)) [] 0,
  .mk (some p45) none (.bin .add .num (.t p44) (.c (.int .i64 3))) [] 1,
  .mk (some p5) none (.mv (.t p45)) [] 2] false
def c153_12 : CC := .loop (.seq (.seq c153_3 (.cond (.t p11) .skip (.exit 0))) (.blk 1 (.seq (.seq c153_4 (.cond (.t p15) (.seq c153_5 (.seq c153_6 (.exit 1))) .skip)) (.seq c153_7 (.seq (.seq c153_8 (.cond (.t p41) (.seq c153_9 .ret) .skip)) (.seq c153_10 c153_11))))))
def c153_13 : CC := .reg [
  .mk (some p46) none (.call (.c (.fn 86 [])) [(.t p4)]) [] 0,
  .mk (some p2) none (.mv (.t p46)) [] 1,
  .mk (some p3) none (.mv (.c (.bool true))) [] 2] false
def F153 : CF := .mk 47 [p0] 6 (.seq c153_0 (.scope (.seq c153_1 (.seq c153_2 (.seq .skip (.seq (.blk 0 c153_12) (.seq c153_13 .ret))))))) [.t p2, .t p3] 1
/- daybook/value.word -/
def c154_0 : CC := .reg [
  .mk (some p2) none (.mv (.c (.bool false))) [] 0] false
def c154_1 : CC := .reg [
  .mk (some p5) none (.mv (.t p0)) [] 0,
  .mk (some p6) none (.s2b (.t p5)) [] 1,
  .mk (some p7) none (.len 1 (.t p6)) [] 2,
  .mk (some p8) none (.mv (.c (.int .i64 0))) [] 3] false
def c154_2 : CC := .reg [
  .mk (some p9) none (.bin .lss .num (.t p8) (.t p7)) [] 0] false
def c154_3 : CC := .reg [
  .mk (some p10) none (.mv (.t p8)) [] 0,
  .mk (some p11) none (.iaddr 1 (.t p6) (.t p8)) [] 1,
  .mk (some p12) none (.load 1 false (.t p11)) [] 2,
  .mk (some p3) none (.mv (.t p10)) [] 3,
  .mk (some p4) none (.mv (.t p12)) [] 4] false
def c154_4 : CC := .reg [
  .mk (some p14) none (.mv (.t p4)) [] 0,
  .mk (some p15) none (.bin .geq .num (.t p14) (.c (.int .u8 97))) [] 1,
  .mk (some p16) none (.mv (.t p15)) [] 2,
  .mk (some p17) (some (p16, true)) (.mv (.t p4)) [] 3,
  .mk (some p18) (some (p16, true)) (.bin .leq .num (.t p17) (.c (.int .u8 122))) [] 4,
  .mk (some p19) none (.pick (.t p16) (.t p18) (.c (.bool false))) [] 5,
  .mk (some p13) none (.mv (.t p19)) [] 6] false
def c154_5 : CC := .reg [
  .mk (some p21) none (.mv (.t p3)) [] 0,
  .mk (some p22) none (.bin .gtr .num (.t p21) (.c (.int .i64 0))) [] 1,
  .mk (some p23) none (.mv (.t p22)) [] 2,
  .mk (some p24) (some (p23, true)) (.mv (.t p4)) [] 3,
  .mk (some p25) (some (p23, true)) (.bin .geq .num (.t p24) (.c (.int .u8 48))) [] 4,
  .mk (some p26) (some (p23, true)) (.mv (.t p25)) [] 5,
  .mk (some p27) (some (p26, true)) (.mv (.t p4)) [] 6,
  .mk (some p28) (some (p26, true)) (.bin .leq .num (.t p27) (.c (.int .u8 57))) [] 7,
  .mk (some p29) (some (p23, true)) (.pick (.t p26) (.t p28) (.c (.bool false))) [] 8,
  .mk (some p30) (some (p23, true)) (.mv (.t p29)) [] 9,
  .mk (some p31) (some (p30, false)) (.mv (.t p4)) [] 10,
  .mk (some p32) (some (p30, false)) (.bin .eql .num (.t p31) (.c (.int .u8 46))) [] 11,
  .mk (some p33) (some (p23, true)) (.pick (.t p30) (.c (.bool true)) (.t p32)) [] 12,
  .mk (some p34) (some (p23, true)) (.mv (.t p33)) [] 13,
  .mk (some p35) (some (p34, false)) (.mv (.t p4)) [] 14,
  .mk (some p36) (some (p34, false)) (.bin .eql .num (.t p35) (.c (.int .u8 95))) [] 15,
  .mk (some p37) (some (p23, true)) (.pick (.t p34) (.c (.bool true)) (.t p36)) [] 16,
  .mk (some p38) (some (p23, true)) (.mv (.t p37)) [] 17,
  .mk (some p39) (some (p38, false)) (.mv (.t p4)) [] 18,
  .mk (some p40) (some (p38, false)) (.bin .eql .num (.t p39) (.c (.int .u8 45))) [] 19,
  .mk (some p41) (some (p23, true)) (.pick (.t p38) (.c (.bool true)) (.t p40)) [] 20,
  .mk (some p42) (some (p23, true)) (.mv (.t p41)) [] 21,
  .mk (some p43) (some (p42, false)) (.mv (.t p4)) [] 22,
  .mk (some p44) (some (p42, false)) (.bin .eql .num (.t p43) (.c (.int .u8 47))) [] 23,
  .mk (some p45) (some (p23, true)) (.pick (.t p42) (.c (.bool true)) (.t p44)) [] 24,
  .mk (some p46) none (.pick (.t p23) (.t p45) (.c (.bool false))) [] 25,
  .mk (some p20) none (.mv (.t p46)) [] 26] false
def c154_6 : CC := .reg [
  .mk (some p2) none (.mv (.c (.bool false))) [] 0] false
def c154_7 : CC := .reg [
  .mk (some p47) none (.bin .add .num (.t p8) (.c (.int .i64 1))) [] 0,
  .mk (some p8) none (.mv (.t p47)) [] 1] false
def c154_8 : CC := .loop (.seq c154_2 (.seq (.cond (.t p9) .skip (.exit 0)) (.seq (.blk 1 (.seq c154_3 (.blk 2 (.seq c154_4 (.cond (.t p13) .skip (.seq c154_5 (.cond (.t p20) .skip (.seq c154_6 .ret)))))))) c154_7)))
def c154_9 : CC := .reg [
  .mk (some p48) none (.mv (.t p0)) [] 0,
  .mk (some p49) none (.len 0 (.t p48)) [] 1,
  .mk (some p50) none (.bin .geq .num (.t p49) (.c (.int .i64 1))) [] 2,
  .mk (some p51) none (.mv (.t p50)) [] 3,
  .mk (some p52) (some (p51, true)) (.mv (.t p0)) [] 4,
  .mk (some p53) (some (p51, true)) (.len 0 (.t p52)) [] 5,
  .mk (some p54) (some (p51, true)) (.bin .leq .num (.t p53) (.c (.int .i64 64))) [] 6,
  .mk (some p55) none (.pick (.t p51) (.t p54) (.c (.bool false))) [] 7,
  .mk (some p2) none (.mv (.t p55)) [] 8] false
def F154 : CF := .mk 56 [p0] 6 (.seq c154_0 (.seq (.seq c154_1 (.blk 0 c154_8)) (.seq c154_9 .ret))) [.t p2] 1
/- daybook/shape.options -/
def c157_0 : CC := .reg [
  .mk (some p4) none (.mv (.c (.bool false))) [] 0] false
def c157_1 : CC := .reg [
  .mk (some p7) none (.mv (.t p1)) [] 0,
  .mk (some p8) none (.len 1 (.t p7)) [] 1,
  .mk (some p9) none (.bin .gtr .num (.t p8) (.c (.int .i64 0))) [] 2,
  .mk (some p10) none (.mv (.t p9)) [] 3,
  .mk (some p11) (some (p10, true)) (.mv (.t p1)) [] 4,
  .mk (some p12) (some (p10, true)) (.iaddr 8 (.t p11) (.c (.int .i64 0))) [] 5,
  .mk (some p13) (some (p10, true)) (.load 8 true (.t p12)) [] 6,
  .mk (some p14) (some (p10, true)) (.call (.c (.fn 112 [])) [(.t p13), (.c (.str [98, 97, 99, 107]))]) [] 7,
  .mk (some p15) none (.pick (.t p10) (.t p14) (.c (.bool false))) [] 8] false
def c157_2 : CC := .reg [
  .mk (some p16) none (.mv (.t p0)) [] 0,
  .mk (some p17) none (.nilck (.t p16)) [] 1,
  .mk (some p18) none (.faddr 2 (.t p17)) [] 2,
  .mk none none (.store 1 (.t p18) (.c (.bool true))) [] 3] false
def c157_3 : CC := .reg [
  .mk (some p19) none (.mv (.t p1)) [] 0,
  .mk (some p20) none (.slice 8 (.t p19) (some (.c (.int .i64 1))) none none) [] 1,
  .mk (some p1) none (.mv (.t p20)) [] 2] false
def c157_4 : CC := .reg [
  .mk (some p21) none (.mv (.t p1)) [] 0,
  .mk (some p22) none (.len 1 (.t p21)) [] 1,
  .mk (some p23) none (.bin .gtr .num (.t p22) (.c (.int .i64 1))) [] 2,
  .mk (some p24) none (.mv (.t p23)) [] 3,
  .mk (some p25) (some (p24, true)) (.mv (.t p1)) [] 4,
  .mk (some p26) (some (p24, true)) (.iaddr 8 (.t p25) (.c (.int .i64 0))) [] 5,
  .mk (some p27) (some (p24, true)) (.load 8 true (.t p26)) [] 6,
  .mk (some p28) (some (p24, true)) (.call (.c (.fn 112 [])) [(.t p27), (.c (.str [108, 105, 109, 105, 116]))]) [] 7,
  .mk (some p29) none (.pick (.t p24) (.t p28) (.c (.bool false))) [] 8] false
def c157_5 : CC := .reg [
  .mk (some p31) none (.mv (.t p1)) [] 0,
  .mk (some p32) none (.iaddr 8 (.t p31) (.c (.int .i64 1))) [] 1,
  .mk (some p33) none (.load 8 true (.t p32)) [] 2,
  .mk (some p34) none (.call (.c (.fn 114 [])) [(.t p33)]) [] 3,
  .mk (some p30) none (.mv (.t p34)) [] 4,
  .mk (some p35) none (.ext 0 (.t p30)) [] 5,
  .mk (some p36) none (.ext 1 (.t p30)) [] 6,
  .mk (some p5) none (.mv (.t p35)) [] 7,
  .mk (some p6) none (.mv (.t p36)) [] 8] false
def c157_6 : CC := .reg [
  .mk (some p37) none (.mv (.t p6)) [] 0,
  .mk (some p38) none (.un .not (.t p37)) [] 1] false
def c157_7 : CC := .reg [
  .mk (some p4) none (.mv (.c (.bool false))) [] 0] false
def c157_8 : CC := .reg [
  .mk (some p39) none (.mv (.t p0)) [] 0,
  .mk (some p40) none (.mv (.t p5)) [] 1,
  .mk (some p41) none (.nilck (.t p39)) [] 2,
  .mk (some p42) none (.faddr 3 (.t p41)) [] 3,
  .mk none none (.store 1 (.t p42) (.t p40)) [] 4] false
def c157_9 : CC := .reg [
  .mk (some p43) none (.mv (.t p1)) [] 0,
  .mk (some p44) none (.slice 8 (.t p43) (some (.c (.int .i64 2))) none none) [] 1,
  .mk (some p1) none (.mv (.t p44)) [] 2] false
def c157_10 : CC := .reg [
  .mk (some p45) none (.mv (.t p1)) [] 0,
  .mk (some p46) none (.len 1 (.t p45)) [] 1,
  .mk (some p47) none (.bin .gtr .num (.t p46) (.c (.int .i64 1))) [] 2,
  .mk (some p48) none (.mv (.t p47)) [] 3,
  .mk (some p49) (some (p48, true)) (.mv (.t p1)) [] 4,
  .mk (some p50) (some (p48, true)) (.iaddr 8 (.t p49) (.c (.int .i64 0))) [] 5,
  .mk (some p51) (some (p48, true)) (.load 8 true (.t p50)) [] 6,
  .mk (some p52) (some (p48, true)) (.call (.c (.fn 112 [])) [(.t p51), (.c (.str [100, 101, 102, 97, 117, 108, 116]))]) [] 7,
  .mk (some p53) none (.pick (.t p48) (.t p52) (.c (.bool false))) [] 8,
  .mk (some p54) none (.mv (.t p53)) [] 9,
  .mk (some p55) (some (p54, true)) (.mv (.t p1)) [] 10,
  .mk (some p56) (some (p54, true)) (.iaddr 8 (.t p55) (.c (.int .i64 1))) [] 11,
  .mk (some p57) (some (p54, true)) (.faddr 0 (.t p56)) [] 12,
  .mk (some p58) (some (p54, true)) (.load 1 false (.t p57)) [] 13,
  .mk (some p59) (some (p54, true)) (.bin .eql .num (.t p58) (.c (.int .i64 1))) [] 14,
  .mk (some p60) none (.pick (.t p54) (.t p59) (.c (.bool false))) [] 15] false
def c157_11 : CC := .reg [
  .mk (some p61) none (.mv (.t p0)) [] 0,
  .mk (some p62) none (.mv (.t p0)) [] 1,
  .mk (some p63) none (.mv (.t p1)) [] 2,
  .mk (some p64) none (.iaddr 8 (.t p63) (.c (.int .i64 1))) [] 3,
  .mk (some p65) none (.faddr 1 (.t p64)) [] 4,
  .mk (some p66) none (.load 3 true (.t p65)) [] 5,
  .mk (some p67) none (.nilck (.t p61)) [] 6,
  .mk (some p68) none (.faddr 4 (.t p67)) [] 7,
  .mk none none (.store 1 (.t p68) (.c (.bool true))) [] 8,
  .mk (some p69) none (.nilck (.t p62)) [] 9,
  .mk (some p70) none (.faddr 5 (.t p69)) [] 10,
  .mk none none (.store 3 (.t p70) (.t p66)) [] 11] false
def c157_12 : CC := .reg [
  .mk (some p71) none (.mv (.t p1)) [] 0,
  .mk (some p72) none (.slice 8 (.t p71) (some (.c (.int .i64 2))) none none) [] 1,
  .mk (some p1) none (.mv (.t p72)) [] 2] false
def c157_13 : CC := .reg [
  .mk (some p73) none (.mv (.t p1)) [] 0,
  .mk (some p74) none (.len 1 (.t p73)) [] 1,
  .mk (some p75) none (.bin .eql .num (.t p74) (.c (.int .i64 0))) [] 2,
  .mk (some p4) none (.mv (.t p75)) [] 3] false
def F157 : CF := .mk 76 [p0, p1] 7 (.seq c157_0 (.seq (.seq c157_1 (.cond (.t p15) (.seq c157_2 c157_3) .skip)) (.seq (.seq c157_4 (.cond (.t p29) (.seq c157_5 (.seq (.seq c157_6 (.cond (.t p38) (.seq c157_7 .ret) .skip)) (.seq c157_8 c157_9))) .skip)) (.seq (.seq c157_10 (.cond (.t p60) (.seq c157_11 c157_12) .skip)) (.seq c157_13 .ret))))) [.t p4] 2
/- daybook/shape.said -/
def c158_0 : CC := .reg [
  .mk (some p1) none (.box 34 (.t p0)) [] 0,
  .mk (some p2) none (.alloc 36 [(.int .i64 0), (.int .i64 0), (.int .i64 0), (.str []), (.str []), .nils, (.int .i64 0), (.int .i64 0)]) [] 1] false
def c158_1 : CC := .reg [
  .mk (some p3) none (.load 3 true (.t p1)) [] 0,
  .mk (some p4) none (.build [(.int .i64 0), (.int .i64 0), (.int .i64 0), (.str []), (.str []), .nils, (.int .i64 0), (.int .i64 0)] [(0, 1, (.c (.int .i64 1))), (1, 3, (.t p3))]) [] 1,
  .mk none none (.store 8 (.t p2) (.t p4)) [] 2] false
def F158 : CF := .mk 5 [p0] 3 (.seq c158_0 (.seq c158_1 .ret)) [.cell p2 8 true] 1
/- daybook/value.Text -/
def c162_0 : CC := .reg [
  .mk (some p1) none (.box 34 (.t p0)) [] 0,
  .mk (some p2) none (.mv (.c (.str []))) [] 1,
  .mk (some p3) none (.mv (.c (.int .i64 0))) [] 2] false
def c162_1 : CC := .reg [
  .mk (some p9) none (.load 3 true (.t p1)) [] 0,
  .mk (some p10) none (.call (.c (.fn 107 [])) [(.t p9)]) [] 1,
  .mk (some p11) none (.un .not (.t p10)) [] 2] false
def c162_2 : CC := .reg [
  .mk (some p2) none (.mv (.c (.str []))) [] 0,
  .mk (some p3) none (.mv (.c (.int .i64 10))) [] 1] false
def c162_3 : CC := .reg [
  .mk (some p4) none (.alloc 148 [.nilp, .nils]) [] 0] false
def c162_4 : CC := .reg [
  .mk (some p12) none (.faddr 0 (.t p1)) [] 0,
  .mk (some p13) none (.load 1 false (.t p12)) [] 1] false
def c162_5 : CC := .reg [
  .mk (some p15) none (.bin .eql .num (.t p13) (.c (.int .i64 1))) [] 0,
  .mk (some p14) none (.mv (.t p15)) [] 1] false
def c162_6 : CC := .reg [
  .mk (some p16) none (.faddr 1 (.t p1)) [] 0,
  .mk (some p17) none (.load 1 false (.t p16)) [] 1,
  .mk (some p18) none (.call (.c (.fn 186 [])) [(.t p17), (.c (.int .i64 10))]) [] 2,
  .mk (some p2) none (.mv (.t p18)) [] 3,
  .mk (some p3) none (.mv (.c (.int .i64 0))) [] 4] false
def c162_7 : CC := .reg [
  .mk (some p20) none (.bin .eql .num (.t p13) (.c (.int .i64 2))) [] 0,
  .mk (some p19) none (.mv (.t p20)) [] 1] false
def c162_8 : CC := .reg [
  .mk (some p21) none (.faddr 1 (.t p1)) [] 0,
  .mk (some p22) none (.load 1 false (.t p21)) [] 1,
  .mk (some p23) none (.bin .eql .num (.t p22) (.c (.int .i64 1))) [] 2,
  .mk (some p24) none (.call (.c (.fn 195 [])) [(.t p23)]) [] 3,
  .mk (some p2) none (.mv (.t p24)) [] 4,
  .mk (some p3) none (.mv (.c (.int .i64 0))) [] 5] false
def c162_9 : CC := .reg [
  .mk (some p26) none (.bin .eql .num (.t p13) (.c (.int .i64 5))) [] 0,
  .mk (some p25) none (.mv (.t p26)) [] 1] false
def c162_10 : CC := .reg [
  .mk (some p27) none (.faddr 1 (.t p1)) [] 0,
  .mk (some p28) none (.load 1 false (.t p27)) [] 1,
  .mk (some p29) none (.call (.c (.fn 186 [])) [(.t p28), (.c (.int .i64 10))]) [] 2,
  .mk (some p30) none (.bin .add .num (.c (.str [64])) (.t p29)) [] 3,
  .mk (some p2) none (.mv (.t p30)) [] 4,
  .mk (some p3) none (.mv (.c (.int .i64 0))) [] 5] false
def c162_11 : CC := .reg [
  .mk (some p32) none (.bin .eql .num (.t p13) (.c (.int .i64 6))) [] 0,
  .mk (some p31) none (.mv (.t p32)) [] 1] false
def c162_12 : CC := .reg [
  .mk (some p33) none (.faddr 1 (.t p1)) [] 0,
  .mk (some p34) none (.load 1 false (.t p33)) [] 1,
  .mk (some p35) none (.call (.c (.fn 186 [])) [(.t p34), (.c (.int .i64 10))]) [] 2,
  .mk (some p36) none (.bin .add .num (.c (.str [33])) (.t p35)) [] 3,
  .mk (some p2) none (.mv (.t p36)) [] 4,
  .mk (some p3) none (.mv (.c (.int .i64 0))) [] 5] false
def c162_13 : CC := .reg [
  .mk (some p38) none (.bin .eql .num (.t p13) (.c (.int .i64 7))) [] 0,
  .mk (some p37) none (.mv (.t p38)) [] 1] false
def c162_14 : CC := .reg [
  .mk (some p39) none (.faddr 2 (.t p1)) [] 0,
  .mk (some p40) none (.load 1 false (.t p39)) [] 1,
  .mk (some p41) none (.bin .add .num (.c (.str [58])) (.t p40)) [] 2,
  .mk (some p2) none (.mv (.t p41)) [] 3,
  .mk (some p3) none (.mv (.c (.int .i64 0))) [] 4] false
def c162_15 : CC := .reg [
  .mk (some p43) none (.bin .eql .num (.t p13) (.c (.int .i64 4))) [] 0,
  .mk (some p42) none (.mv (.t p43)) [] 1] false
def c162_16 : CC := .reg [
  .mk (some p44) none (.call (.c (.fn 151 [])) [(.t p4), (.c (.int .u8 35))]) [] 0] false
def c162_17 : CC := .reg [
  .mk (some p45) none (.faddr 2 (.t p1)) [] 0,
  .mk (some p46) none (.load 1 false (.t p45)) [] 1,
  .mk (some p47) none (.s2b (.t p46)) [] 2,
  .mk (some p48) none (.len 1 (.t p47)) [] 3,
  .mk (some p49) none (.mv (.c (.int .i64 0))) [] 4] false
def c162_18 : CC := .reg [
  .mk (some p50) none (.bin .lss .num (.t p49) (.t p48)) [] 0] false
def c162_19 : CC := .reg [
  .mk (some p51) none (.iaddr 1 (.t p47) (.t p49)) [] 0,
  .mk (some p52) none (.load 1 false (.t p51)) [] 1,
  .mk (some p6) none (.mv (.t p52)) [] 2] false
def c162_20 : CC := .reg [
  .mk (some p53) none (.mv (.t p6)) [] 0,
  .mk (some p54) none (.call (.c (.fn 196 [])) [(.t p53)]) [] 1,
  .mk (some p55) none (.call (.c (.fn 123 [])) [(.t p4), (.t p54)]) [] 2] false
def c162_21 : CC := .reg [
  .mk (some p56) none (.bin .add .num (.t p49) (.c (.int .i64 1))) [] 0,
  .mk (some p49) none (.mv (.t p56)) [] 1] false
def c162_22 : CC := .loop (.seq c162_18 (.seq (.cond (.t p50) .skip (.exit 1)) (.seq (.blk 2 (.seq c162_19 c162_20)) c162_21)))
def c162_23 : CC := .reg [
  .mk (some p57) none (.call (.c (.fn 86 [])) [(.t p4)]) [] 0,
  .mk (some p2) none (.mv (.t p57)) [] 1,
  .mk (some p3) none (.mv (.c (.int .i64 0))) [] 2] false
def c162_24 : CC := .reg [
  .mk (some p58) none (.call (.c (.fn 151 [])) [(.t p4), (.c (.int .u8 34))]) [] 0] false
def c162_25 : CC := .reg [
  .mk (some p59) none (.faddr 2 (.t p1)) [] 0,
  .mk (some p60) none (.load 1 false (.t p59)) [] 1,
  .mk (some p61) none (.s2b (.t p60)) [] 2,
  .mk (some p62) none (.len 1 (.t p61)) [] 3,
  .mk (some p63) none (.mv (.c (.int .i64 0))) [] 4] false
def c162_26 : CC := .reg [
  .mk (some p64) none (.bin .lss .num (.t p63) (.t p62)) [] 0] false
def c162_27 : CC := .reg [
  .mk (some p65) none (.iaddr 1 (.t p61) (.t p63)) [] 0,
  .mk (some p66) none (.load 1 false (.t p65)) [] 1,
  .mk (some p8) none (.mv (.t p66)) [] 2] false
def c162_28 : CC := .reg [
  .mk (some p67) none (.mv (.t p8)) [] 0,
  .mk (some p68) none (.call (.c (.fn 190 [])) [(.t p67)]) [] 1] false
def c162_29 : CC := .reg [
  .mk (some p69) none (.mv (.t p8)) [] 0,
  .mk (some p70) none (.call (.c (.fn 151 [])) [(.t p4), (.t p69)]) [] 1] false
def c162_30 : CC := .reg [
  .mk (some p71) none (.mv (.t p8)) [] 0,
  .mk (some p72) none (.call (.c (.fn 196 [])) [(.t p71)]) [] 1,
  .mk (some p73) none (.bin .add .num (.c (.str [92])) (.t p72)) [] 2,
  .mk (some p74) none (.call (.c (.fn 123 [])) [(.t p4), (.t p73)]) [] 3] false
def c162_31 : CC := .reg [
  .mk (some p75) none (.bin .add .num (.t p63) (.c (.int .i64 1))) [] 0,
  .mk (some p63) none (.mv (.t p75)) [] 1] false
def c162_32 : CC := .loop (.seq c162_26 (.seq (.cond (.t p64) .skip (.exit 3)) (.seq (.blk 4 (.seq c162_27 (.seq c162_28 (.cond (.t p68) c162_29 c162_30)))) c162_31)))
def c162_33 : CC := .reg [
  .mk (some p76) none (.call (.c (.fn 86 [])) [(.t p4)]) [] 0,
  .mk (some p77) none (.bin .add .num (.t p76) (.c (.str [34]))) [] 1,
  .mk (some p2) none (.mv (.t p77)) [] 2,
  .mk (some p3) none (.mv (.c (.int .i64 0))) [] 3] false
def F162 : CF := .mk 78 [p0] 7 (.seq c162_0 (.seq (.seq c162_1 (.cond (.t p11) (.seq c162_2 .ret) .skip)) (.seq c162_3 (.seq (.seq c162_4 (.blk 0 (.seq c162_5 (.cond (.t p14) (.seq c162_6 .ret) (.seq c162_7 (.cond (.t p19) (.seq c162_8 .ret) (.seq c162_9 (.cond (.t p25) (.seq c162_10 .ret) (.seq c162_11 (.cond (.t p31) (.seq c162_12 .ret) (.seq c162_13 (.cond (.t p37) (.seq c162_14 .ret) (.seq c162_15 (.cond (.t p42) (.seq c162_16 (.seq (.seq c162_17 (.blk 1 c162_22)) (.seq c162_23 .ret))) .skip)))))))))))))) (.seq c162_24 (.seq (.seq c162_25 (.blk 3 c162_32)) (.seq c162_33 .ret))))))) [.t p2, .t p3] 1
/- daybook/value.pairs$1 -/
def c187_0 : CC := .reg [
  .mk (some p5) none (.load 1 false (.t p1)) [] 0,
  .mk (some p6) none (.bin .neq .num (.t p5) (.c (.str []))) [] 1] false
def c187_1 : CC := .reg [
  .mk (some p10) none (.load 1 false (.t p1)) [] 0,
  .mk (some p11) none (.call (.c (.fn 188 [])) [(.t p10)]) [] 1,
  .mk (some p9) none (.mv (.t p11)) [] 2,
  .mk (some p12) none (.ext 0 (.t p9)) [] 3,
  .mk (some p13) none (.ext 1 (.t p9)) [] 4,
  .mk (some p3) none (.mv (.t p12)) [] 5,
  .mk (some p4) none (.mv (.t p13)) [] 6] false
def c187_2 : CC := .reg [
  .mk (some p14) none (.mv (.t p0)) [] 0,
  .mk (some p15) none (.mv (.t p3)) [] 1,
  .mk (some p16) none (.mv (.t p4)) [] 2,
  .mk (some p17) none (.call (.t p14) [(.t p15), (.t p16)]) [] 3,
  .mk (some p18) none (.un .not (.t p17)) [] 4,
  .mk (some p19) none (.mv (.t p18)) [] 5,
  .mk (some p20) (some (p19, false)) (.mv (.t p4)) [] 6,
  .mk (some p21) (some (p19, false)) (.un .not (.t p20)) [] 7,
  .mk (some p22) none (.pick (.t p19) (.c (.bool true)) (.t p21)) [] 8] false
def c187_3 : CC := .reg [
  .mk (some p7) none (.load 1 false (.t p1)) [] 0,
  .mk (some p8) none (.slices (.t p7) (some (.c (.int .i64 2))) none) [] 1,
  .mk none none (.store 1 (.t p1) (.t p8)) [] 2] false
def c187_4 : CC := .loop (.seq (.seq c187_0 (.cond (.t p6) .skip (.exit 0))) (.seq (.blk 1 (.seq c187_1 (.seq c187_2 (.cond (.t p22) .ret .skip)))) c187_3))
def F187 : CF := .mk 23 [p0, p1] 5 (.blk 0 c187_4) [] 0
/- daybook/value.pair -/
def c188_0 : CC := .reg [
  .mk (some p2) none (.mv (.c (.int .u8 0))) [] 0,
  .mk (some p3) none (.mv (.c (.bool false))) [] 1] false
def c188_1 : CC := .reg [
  .mk (some p6) none (.mv (.t p0)) [] 0,
  .mk (some p7) none (.len 0 (.t p6)) [] 1,
  .mk (some p8) none (.bin .lss .num (.t p7) (.c (.int .i64 2))) [] 2] false
def c188_2 : CC := .reg [
  .mk (some p2) none (.mv (.c (.int .u8 0))) [] 0,
  .mk (some p3) none (.mv (.c (.bool false))) [] 1] false
def c188_3 : CC := .reg [
  .mk (some p9) none (.mv (.t p0)) [] 0,
  .mk (some p10) none (.index (.t p9) (.c (.int .i64 0))) [] 1,
  .mk (some p12) none (.mv (.t p0)) [] 3,
  .mk (some p13) none (.index (.t p12) (.c (.int .i64 1))) [] 4,
  .mk (some p11) none (.call (.c (.fn 103 [])) [(.c (.str [48, 49, 50, 51, 52, 53, 54, 55, 56, 57, 97, 98, 99, 100, 101, 102])), (.t p10)]) [] 2,
  .mk (some p14) none (.call (.c (.fn 103 [])) [(.c (.str [48, 49, 50, 51, 52, 53, 54, 55, 56, 57, 97, 98, 99, 100, 101, 102])), (.t p13)]) [] 5,
  .mk (some p4) none (.mv (.t p11)) [] 6,
  .mk (some p5) none (.mv (.t p14)) [] 7] true
def c188_4 : CC := .reg [
  .mk (some p15) none (.mv (.t p4)) [] 0,
  .mk (some p16) none (.bin .shl .num (.t p15) (.c (.int .u64 4))) [] 1,
  .mk (some p17) none (.mv (.t p5)) [] 2,
  .mk (some p18) none (.bin .or .num (.t p16) (.t p17)) [] 3,
  .mk (some p19) none (.toint .u8 (.t p18)) [] 4,
  .mk (some p20) none (.mv (.t p4)) [] 5,
  .mk (some p21) none (.bin .geq .num (.t p20) (.c (.int .i64 0))) [] 6,
  .mk (some p22) none (.mv (.t p21)) [] 7,
  .mk (some p23) (some (p22, true)) (.mv (.t p5)) [] 8,
  .mk (some p24) (some (p22, true)) (.bin .geq .num (.t p23) (.c (.int .i64 0))) [] 9,
  .mk (some p25) none (.pick (.t p22) (.t p24) (.c (.bool false))) [] 10,
  .mk (some p2) none (.mv (.t p19)) [] 11,
  .mk (some p3) none (.mv (.t p25)) [] 12] false
def F188 : CF := .mk 26 [p0] 5 (.seq c188_0 (.seq (.seq c188_1 (.cond (.t p8) (.seq c188_2 .ret) .skip)) (.seq c188_3 (.seq c188_4 .ret)))) [.t p2, .t p3] 1
/- internal/stringslite.CutSuffix -/
def c189_0 : CC := .reg [
  .mk (some p4) none (.mv (.c (.str []))) [] 0,
  .mk (some p5) none (.mv (.c (.bool false))) [] 1] false
def c189_1 : CC := .reg [
  .mk (some p6) none (.mv (.t p0)) [] 0,
  .mk (some p7) none (.mv (.t p1)) [] 1,
  .mk (some p8) none (.call (.c (.fn 210 [])) [(.t p6), (.t p7)]) [] 2,
  .mk (some p9) none (.un .not (.t p8)) [] 3] false
def c189_2 : CC := .reg [
  .mk (some p10) none (.mv (.t p0)) [] 0,
  .mk (some p4) none (.mv (.t p10)) [] 1,
  .mk (some p5) none (.mv (.c (.bool false))) [] 2] false
def c189_3 : CC := .reg [
  .mk (some p11) none (.mv (.t p0)) [] 0,
  .mk (some p12) none (.mv (.t p0)) [] 1,
  .mk (some p13) none (.len 0 (.t p12)) [] 2,
  .mk (some p14) none (.mv (.t p1)) [] 3,
  .mk (some p15) none (.len 0 (.t p14)) [] 4,
  .mk (some p16) none (.bin .sub .num (.t p13) (.t p15)) [] 5,
  .mk (some p17) none (.slices (.t p11) none (some (.t p16))) [] 6,
  .mk (some p4) none (.mv (.t p17)) [] 7,
  .mk (some p5) none (.mv (.c (.bool true))) [] 8] false
def F189 : CF := .mk 18 [p0, p1] 5 (.seq c189_0 (.seq (.seq c189_1 (.cond (.t p9) (.seq c189_2 .ret) .skip)) (.seq c189_3 .ret))) [.t p4, .t p5] 1
/- daybook/value.plain -/
def c190_0 : CC := .reg [
  .mk (some p2) none (.mv (.c (.bool false))) [] 0] false
def c190_1 : CC := .reg [
  .mk (some p3) none (.mv (.t p0)) [] 0,
  .mk (some p4) none (.bin .geq .num (.t p3) (.c (.int .u8 32))) [] 1,
  .mk (some p5) none (.mv (.t p4)) [] 2,
  .mk (some p6) (some (p5, true)) (.mv (.t p0)) [] 3,
  .mk (some p7) (some (p5, true)) (.bin .leq .num (.t p6) (.c (.int .u8 126))) [] 4,
  .mk (some p8) none (.pick (.t p5) (.t p7) (.c (.bool false))) [] 5,
  .mk (some p9) none (.mv (.t p8)) [] 6,
  .mk (some p10) (some (p9, true)) (.mv (.t p0)) [] 7,
  .mk (some p11) (some (p9, true)) (.bin .neq .num (.t p10) (.c (.int .u8 34))) [] 8,
  .mk (some p12) none (.pick (.t p9) (.t p11) (.c (.bool false))) [] 9,
  .mk (some p13) none (.mv (.t p12)) [] 10,
  .mk (some p14) (some (p13, true)) (.mv (.t p0)) [] 11,
  .mk (some p15) (some (p13, true)) (.bin .neq .num (.t p14) (.c (.int .u8 92))) [] 12,
  .mk (some p16) none (.pick (.t p13) (.t p15) (.c (.bool false))) [] 13,
  .mk (some p2) none (.mv (.t p16)) [] 14] false
def F190 : CF := .mk 17 [p0] 5 (.seq c190_0 (.seq c190_1 .ret)) [.t p2] 1
/- strconv.FormatBool -/
def c195_0 : CC := .reg [
  .mk (some p2) none (.mv (.c (.str []))) [] 0] false
def c195_1 : CC := .reg [
  .mk (some p3) none (.mv (.t p0)) [] 0,
  .mk (some p4) none (.call (.c (.fn 211 [])) [(.t p3)]) [] 1,
  .mk (some p2) none (.mv (.t p4)) [] 2] false
def F195 : CF := .mk 5 [p0] 3 (.seq c195_0 (.seq c195_1 .ret)) [.t p2] 1
/- daybook/value.hex -/
def c196_0 : CC := .reg [
  .mk (some p2) none (.mv (.c (.str []))) [] 0] false
def c196_1 : CC := .reg [
  .mk (some p3) none (.mv (.t p0)) [] 0,
  .mk (some p4) none (.bin .shr .num (.t p3) (.c (.int .u64 4))) [] 1,
  .mk (some p5) none (.index (.c (.str [48, 49, 50, 51, 52, 53, 54, 55, 56, 57, 97, 98, 99, 100, 101, 102])) (.t p4)) [] 2,
  .mk (some p6) none (.mv (.t p0)) [] 3,
  .mk (some p7) none (.bin .and .num (.t p6) (.c (.int .u8 15))) [] 4,
  .mk (some p8) none (.index (.c (.str [48, 49, 50, 51, 52, 53, 54, 55, 56, 57, 97, 98, 99, 100, 101, 102])) (.t p7)) [] 5,
  .mk (some p9) none (.bslice 5 1 [(.int .u8 0)] 2 [(0, (.t p5)), (1, (.t p8))]) [] 6,
  .mk (some p10) none (.b2s (.t p9)) [] 7,
  .mk (some p2) none (.mv (.t p10)) [] 8] true
def F196 : CF := .mk 11 [p0] 4 (.seq c196_0 (.seq c196_1 .ret)) [.t p2] 1
/- internal/stringslite.HasSuffix -/
def c210_0 : CC := .reg [
  .mk (some p4) none (.mv (.c (.bool false))) [] 0] false
def c210_1 : CC := .reg [
  .mk (some p5) none (.mv (.t p0)) [] 0,
  .mk (some p6) none (.len 0 (.t p5)) [] 1,
  .mk (some p7) none (.mv (.t p1)) [] 2,
  .mk (some p8) none (.len 0 (.t p7)) [] 3,
  .mk (some p9) none (.bin .geq .num (.t p6) (.t p8)) [] 4,
  .mk (some p10) none (.mv (.t p9)) [] 5,
  .mk (some p11) (some (p10, true)) (.mv (.t p0)) [] 6,
  .mk (some p12) (some (p10, true)) (.mv (.t p0)) [] 7,
  .mk (some p13) (some (p10, true)) (.len 0 (.t p12)) [] 8,
  .mk (some p14) (some (p10, true)) (.mv (.t p1)) [] 9,
  .mk (some p15) (some (p10, true)) (.len 0 (.t p14)) [] 10,
  .mk (some p16) (some (p10, true)) (.bin .sub .num (.t p13) (.t p15)) [] 11,
  .mk (some p17) (some (p10, true)) (.slices (.t p11) (some (.t p16)) none) [] 12,
  .mk (some p18) (some (p10, true)) (.mv (.t p1)) [] 13,
  .mk (some p19) (some (p10, true)) (.bin .eql .num (.t p17) (.t p18)) [] 14,
  .mk (some p20) none (.pick (.t p10) (.t p19) (.c (.bool false))) [] 15,
  .mk (some p4) none (.mv (.t p20)) [] 16] false
def F210 : CF := .mk 21 [p0, p1] 5 (.seq c210_0 (.seq c210_1 .ret)) [.t p4] 1
/- internal/strconv.FormatBool -/
def c211_0 : CC := .reg [
  .mk (some p2) none (.mv (.c (.str []))) [] 0] false
def c211_1 : CC := .reg [
  .mk (some p3) none (.mv (.t p0)) [] 0] false
def c211_2 : CC := .reg [
  .mk (some p2) none (.mv (.c (.str [116, 114, 117, 101]))) [] 0] false
def c211_3 : CC := .reg [
  .mk (some p2) none (.mv (.c (.str [102, 97, 108, 115, 101]))) [] 0] false
def F211 : CF := .mk 4 [p0] 3 (.seq c211_0 (.seq (.seq c211_1 (.cond (.t p3) (.seq c211_2 .ret) .skip)) (.seq c211_3 .ret))) [.t p2] 1
end Go.EV

/- Functions by number: a tree. -/
namespace Go.EV
inductive Tm where
  | leaf
  | node (l : Tm) (k : Nat) (F : CF) (r : Tm)
def Tm.get : Tm → Nat → Option CF
  | .leaf, _ => none
  | .node l k F r, i => bif Nat.beq i k then some F else bif Nat.blt i k then l.get i else r.get i
def Tm.All (p : Nat → CF → Prop) : Tm → Prop
  | .leaf => True
  | .node l k F r => l.All p ∧ p k F ∧ r.All p
theorem Tm.get_all {p : Nat → CF → Prop} {i : Nat} {F : CF} : ∀ {t : Tm}, t.All p → t.get i = some F → p i F
  | .leaf, _, h => by cases h
  | .node l k G r, ⟨h1, h2, h3⟩, h => by
    unfold Tm.get at h
    cases e : Nat.beq i k with
    | true =>
      rw [e] at h
      cases h
      rw [Nat.eq_of_beq_eq_true e]; exact h2
    | false =>
      rw [e] at h
      simp only [cond_false] at h
      cases e2 : Nat.blt i k with
      | true => rw [e2] at h; exact Tm.get_all h1 h
      | false => rw [e2] at h; exact Tm.get_all h3 h
/-- A compiled function is the program's. -/
def FnOk (P : Program) (k : Nat) (F : CF) : Prop := ∃ fn, P.funcs[k]? = some fn ∧ (fn.name == "runtime.NumGoroutine") = false ∧ compF P F.mode fn = some F
end Go.EV
