/-
  The functions as they are reckoned: printed by tools/gen_rk.py out of the program's own form; each is held against it.
-/
import Derived.Test.YtonckpblbdopmaaRqp
import Derived.Test.YtonckpblbdopmaaProg
namespace Go.Proofs.Ytonckpblbdopmaa.Rk
set_option linter.unusedVariables false
open Go
set_option maxRecDepth 100000
set_option maxHeartbeats 4000000

def p0 : Pt := .e
def p1 : Pt := .l (.e)
def p2 : Pt := .r (.e)
def p3 : Pt := .l (.l (.e))
def p4 : Pt := .r (.l (.e))
def p5 : Pt := .l (.r (.e))
def p6 : Pt := .r (.r (.e))
def p7 : Pt := .l (.l (.l (.e)))
def p8 : Pt := .r (.l (.l (.e)))
def p9 : Pt := .l (.r (.l (.e)))
def p10 : Pt := .r (.r (.l (.e)))
def p11 : Pt := .l (.l (.r (.e)))
def p12 : Pt := .r (.l (.r (.e)))
def p13 : Pt := .l (.r (.r (.e)))
def p14 : Pt := .r (.r (.r (.e)))
def p15 : Pt := .l (.l (.l (.l (.e))))
def p16 : Pt := .r (.l (.l (.l (.e))))
def p17 : Pt := .l (.r (.l (.l (.e))))
def p18 : Pt := .r (.r (.l (.l (.e))))
def p19 : Pt := .l (.l (.r (.l (.e))))
def p20 : Pt := .r (.l (.r (.l (.e))))
def p21 : Pt := .l (.r (.r (.l (.e))))
def p22 : Pt := .r (.r (.r (.l (.e))))
def p23 : Pt := .l (.l (.l (.r (.e))))
def p24 : Pt := .r (.l (.l (.r (.e))))
def p25 : Pt := .l (.r (.l (.r (.e))))
def p26 : Pt := .r (.r (.l (.r (.e))))
def p27 : Pt := .l (.l (.r (.r (.e))))
def p28 : Pt := .r (.l (.r (.r (.e))))
def p29 : Pt := .l (.r (.r (.r (.e))))
def p30 : Pt := .r (.r (.r (.r (.e))))
def p31 : Pt := .l (.l (.l (.l (.l (.e)))))
def p32 : Pt := .r (.l (.l (.l (.l (.e)))))
def p33 : Pt := .l (.r (.l (.l (.l (.e)))))
def p34 : Pt := .r (.r (.l (.l (.l (.e)))))
def p35 : Pt := .l (.l (.r (.l (.l (.e)))))
def p36 : Pt := .r (.l (.r (.l (.l (.e)))))
def p37 : Pt := .l (.r (.r (.l (.l (.e)))))
def p38 : Pt := .r (.r (.r (.l (.l (.e)))))
def p39 : Pt := .l (.l (.l (.r (.l (.e)))))
def p40 : Pt := .r (.l (.l (.r (.l (.e)))))
def p41 : Pt := .l (.r (.l (.r (.l (.e)))))
def p42 : Pt := .r (.r (.l (.r (.l (.e)))))
def p43 : Pt := .l (.l (.r (.r (.l (.e)))))
def p44 : Pt := .r (.l (.r (.r (.l (.e)))))
def p45 : Pt := .l (.r (.r (.r (.l (.e)))))
def p46 : Pt := .r (.r (.r (.r (.l (.e)))))
def p47 : Pt := .l (.l (.l (.l (.r (.e)))))
def p48 : Pt := .r (.l (.l (.l (.r (.e)))))
def p49 : Pt := .l (.r (.l (.l (.r (.e)))))
def p50 : Pt := .r (.r (.l (.l (.r (.e)))))
def p51 : Pt := .l (.l (.r (.l (.r (.e)))))
def p52 : Pt := .r (.l (.r (.l (.r (.e)))))
def p53 : Pt := .l (.r (.r (.l (.r (.e)))))
def p54 : Pt := .r (.r (.r (.l (.r (.e)))))
def p55 : Pt := .l (.l (.l (.r (.r (.e)))))
def p56 : Pt := .r (.l (.l (.r (.r (.e)))))
def p57 : Pt := .l (.r (.l (.r (.r (.e)))))
def p58 : Pt := .r (.r (.l (.r (.r (.e)))))
def p59 : Pt := .l (.l (.r (.r (.r (.e)))))
def p60 : Pt := .r (.l (.r (.r (.r (.e)))))
def p61 : Pt := .l (.r (.r (.r (.r (.e)))))
def p62 : Pt := .r (.r (.r (.r (.r (.e)))))
def p63 : Pt := .l (.l (.l (.l (.l (.l (.e))))))
def p64 : Pt := .r (.l (.l (.l (.l (.l (.e))))))
def p65 : Pt := .l (.r (.l (.l (.l (.l (.e))))))
def p66 : Pt := .r (.r (.l (.l (.l (.l (.e))))))
def p67 : Pt := .l (.l (.r (.l (.l (.l (.e))))))
def p68 : Pt := .r (.l (.r (.l (.l (.l (.e))))))
def p69 : Pt := .l (.r (.r (.l (.l (.l (.e))))))
def p70 : Pt := .r (.r (.r (.l (.l (.l (.e))))))
def p71 : Pt := .l (.l (.l (.r (.l (.l (.e))))))
def p72 : Pt := .r (.l (.l (.r (.l (.l (.e))))))
def p73 : Pt := .l (.r (.l (.r (.l (.l (.e))))))
def p74 : Pt := .r (.r (.l (.r (.l (.l (.e))))))
def p75 : Pt := .l (.l (.r (.r (.l (.l (.e))))))
def p76 : Pt := .r (.l (.r (.r (.l (.l (.e))))))
def p77 : Pt := .l (.r (.r (.r (.l (.l (.e))))))
def p78 : Pt := .r (.r (.r (.r (.l (.l (.e))))))
def p79 : Pt := .l (.l (.l (.l (.r (.l (.e))))))
def p80 : Pt := .r (.l (.l (.l (.r (.l (.e))))))
def p81 : Pt := .l (.r (.l (.l (.r (.l (.e))))))
def p82 : Pt := .r (.r (.l (.l (.r (.l (.e))))))
def p83 : Pt := .l (.l (.r (.l (.r (.l (.e))))))
def p84 : Pt := .r (.l (.r (.l (.r (.l (.e))))))
def p85 : Pt := .l (.r (.r (.l (.r (.l (.e))))))
def p86 : Pt := .r (.r (.r (.l (.r (.l (.e))))))
def p87 : Pt := .l (.l (.l (.r (.r (.l (.e))))))
def p88 : Pt := .r (.l (.l (.r (.r (.l (.e))))))
def p89 : Pt := .l (.r (.l (.r (.r (.l (.e))))))
def p90 : Pt := .r (.r (.l (.r (.r (.l (.e))))))
def p91 : Pt := .l (.l (.r (.r (.r (.l (.e))))))
def p92 : Pt := .r (.l (.r (.r (.r (.l (.e))))))
def p93 : Pt := .l (.r (.r (.r (.r (.l (.e))))))
def p94 : Pt := .r (.r (.r (.r (.r (.l (.e))))))
def p95 : Pt := .l (.l (.l (.l (.l (.r (.e))))))
def p96 : Pt := .r (.l (.l (.l (.l (.r (.e))))))
def p97 : Pt := .l (.r (.l (.l (.l (.r (.e))))))
def p98 : Pt := .r (.r (.l (.l (.l (.r (.e))))))
def p99 : Pt := .l (.l (.r (.l (.l (.r (.e))))))
def p100 : Pt := .r (.l (.r (.l (.l (.r (.e))))))
def p101 : Pt := .l (.r (.r (.l (.l (.r (.e))))))
def p102 : Pt := .r (.r (.r (.l (.l (.r (.e))))))
def p103 : Pt := .l (.l (.l (.r (.l (.r (.e))))))
def p104 : Pt := .r (.l (.l (.r (.l (.r (.e))))))
def p105 : Pt := .l (.r (.l (.r (.l (.r (.e))))))
def p106 : Pt := .r (.r (.l (.r (.l (.r (.e))))))
def p107 : Pt := .l (.l (.r (.r (.l (.r (.e))))))
def p108 : Pt := .r (.l (.r (.r (.l (.r (.e))))))
def p109 : Pt := .l (.r (.r (.r (.l (.r (.e))))))
def p110 : Pt := .r (.r (.r (.r (.l (.r (.e))))))
def p111 : Pt := .l (.l (.l (.l (.r (.r (.e))))))
def p112 : Pt := .r (.l (.l (.l (.r (.r (.e))))))
def p113 : Pt := .l (.r (.l (.l (.r (.r (.e))))))
def p114 : Pt := .r (.r (.l (.l (.r (.r (.e))))))
def p115 : Pt := .l (.l (.r (.l (.r (.r (.e))))))
def p116 : Pt := .r (.l (.r (.l (.r (.r (.e))))))
def p117 : Pt := .l (.r (.r (.l (.r (.r (.e))))))
def p118 : Pt := .r (.r (.r (.l (.r (.r (.e))))))
def p119 : Pt := .l (.l (.l (.r (.r (.r (.e))))))
def p120 : Pt := .r (.l (.l (.r (.r (.r (.e))))))
def p121 : Pt := .l (.r (.l (.r (.r (.r (.e))))))
def p122 : Pt := .r (.r (.l (.r (.r (.r (.e))))))
def p123 : Pt := .l (.l (.r (.r (.r (.r (.e))))))
def p124 : Pt := .r (.l (.r (.r (.r (.r (.e))))))
def p125 : Pt := .l (.r (.r (.r (.r (.r (.e))))))
def p126 : Pt := .r (.r (.r (.r (.r (.r (.e))))))
def p127 : Pt := .l (.l (.l (.l (.l (.l (.l (.e)))))))
def p128 : Pt := .r (.l (.l (.l (.l (.l (.l (.e)))))))
def p129 : Pt := .l (.r (.l (.l (.l (.l (.l (.e)))))))
def p130 : Pt := .r (.r (.l (.l (.l (.l (.l (.e)))))))
def p131 : Pt := .l (.l (.r (.l (.l (.l (.l (.e)))))))
def p132 : Pt := .r (.l (.r (.l (.l (.l (.l (.e)))))))
def p133 : Pt := .l (.r (.r (.l (.l (.l (.l (.e)))))))
def p134 : Pt := .r (.r (.r (.l (.l (.l (.l (.e)))))))
def p135 : Pt := .l (.l (.l (.r (.l (.l (.l (.e)))))))
def p136 : Pt := .r (.l (.l (.r (.l (.l (.l (.e)))))))
def p137 : Pt := .l (.r (.l (.r (.l (.l (.l (.e)))))))
def p138 : Pt := .r (.r (.l (.r (.l (.l (.l (.e)))))))
def p139 : Pt := .l (.l (.r (.r (.l (.l (.l (.e)))))))
def p140 : Pt := .r (.l (.r (.r (.l (.l (.l (.e)))))))
def p141 : Pt := .l (.r (.r (.r (.l (.l (.l (.e)))))))
def p142 : Pt := .r (.r (.r (.r (.l (.l (.l (.e)))))))
def p143 : Pt := .l (.l (.l (.l (.r (.l (.l (.e)))))))
def p144 : Pt := .r (.l (.l (.l (.r (.l (.l (.e)))))))
def p145 : Pt := .l (.r (.l (.l (.r (.l (.l (.e)))))))
def p146 : Pt := .r (.r (.l (.l (.r (.l (.l (.e)))))))
def p147 : Pt := .l (.l (.r (.l (.r (.l (.l (.e)))))))
def p148 : Pt := .r (.l (.r (.l (.r (.l (.l (.e)))))))
def p149 : Pt := .l (.r (.r (.l (.r (.l (.l (.e)))))))
def p150 : Pt := .r (.r (.r (.l (.r (.l (.l (.e)))))))
def p151 : Pt := .l (.l (.l (.r (.r (.l (.l (.e)))))))
def p152 : Pt := .r (.l (.l (.r (.r (.l (.l (.e)))))))
def p153 : Pt := .l (.r (.l (.r (.r (.l (.l (.e)))))))
def p154 : Pt := .r (.r (.l (.r (.r (.l (.l (.e)))))))
def p155 : Pt := .l (.l (.r (.r (.r (.l (.l (.e)))))))
def p156 : Pt := .r (.l (.r (.r (.r (.l (.l (.e)))))))
def p157 : Pt := .l (.r (.r (.r (.r (.l (.l (.e)))))))
def p158 : Pt := .r (.r (.r (.r (.r (.l (.l (.e)))))))
def p159 : Pt := .l (.l (.l (.l (.l (.r (.l (.e)))))))
def p160 : Pt := .r (.l (.l (.l (.l (.r (.l (.e)))))))
def p161 : Pt := .l (.r (.l (.l (.l (.r (.l (.e)))))))
def p162 : Pt := .r (.r (.l (.l (.l (.r (.l (.e)))))))
def p163 : Pt := .l (.l (.r (.l (.l (.r (.l (.e)))))))
def p164 : Pt := .r (.l (.r (.l (.l (.r (.l (.e)))))))
def p165 : Pt := .l (.r (.r (.l (.l (.r (.l (.e)))))))
def p166 : Pt := .r (.r (.r (.l (.l (.r (.l (.e)))))))
def p167 : Pt := .l (.l (.l (.r (.l (.r (.l (.e)))))))
def p168 : Pt := .r (.l (.l (.r (.l (.r (.l (.e)))))))
def p169 : Pt := .l (.r (.l (.r (.l (.r (.l (.e)))))))
def p170 : Pt := .r (.r (.l (.r (.l (.r (.l (.e)))))))
def p171 : Pt := .l (.l (.r (.r (.l (.r (.l (.e)))))))
def p172 : Pt := .r (.l (.r (.r (.l (.r (.l (.e)))))))
def p173 : Pt := .l (.r (.r (.r (.l (.r (.l (.e)))))))
def p174 : Pt := .r (.r (.r (.r (.l (.r (.l (.e)))))))
def p175 : Pt := .l (.l (.l (.l (.r (.r (.l (.e)))))))
def p176 : Pt := .r (.l (.l (.l (.r (.r (.l (.e)))))))
def p177 : Pt := .l (.r (.l (.l (.r (.r (.l (.e)))))))
def p178 : Pt := .r (.r (.l (.l (.r (.r (.l (.e)))))))
def p179 : Pt := .l (.l (.r (.l (.r (.r (.l (.e)))))))
def p180 : Pt := .r (.l (.r (.l (.r (.r (.l (.e)))))))
def p181 : Pt := .l (.r (.r (.l (.r (.r (.l (.e)))))))
def p182 : Pt := .r (.r (.r (.l (.r (.r (.l (.e)))))))
def p183 : Pt := .l (.l (.l (.r (.r (.r (.l (.e)))))))
def p184 : Pt := .r (.l (.l (.r (.r (.r (.l (.e)))))))
def p185 : Pt := .l (.r (.l (.r (.r (.r (.l (.e)))))))
def p186 : Pt := .r (.r (.l (.r (.r (.r (.l (.e)))))))
def p187 : Pt := .l (.l (.r (.r (.r (.r (.l (.e)))))))
def p188 : Pt := .r (.l (.r (.r (.r (.r (.l (.e)))))))
def p189 : Pt := .l (.r (.r (.r (.r (.r (.l (.e)))))))
def p190 : Pt := .r (.r (.r (.r (.r (.r (.l (.e)))))))
def p191 : Pt := .l (.l (.l (.l (.l (.l (.r (.e)))))))
def p192 : Pt := .r (.l (.l (.l (.l (.l (.r (.e)))))))
def p193 : Pt := .l (.r (.l (.l (.l (.l (.r (.e)))))))
def p194 : Pt := .r (.r (.l (.l (.l (.l (.r (.e)))))))
def p195 : Pt := .l (.l (.r (.l (.l (.l (.r (.e)))))))
def p196 : Pt := .r (.l (.r (.l (.l (.l (.r (.e)))))))
def p197 : Pt := .l (.r (.r (.l (.l (.l (.r (.e)))))))
def p198 : Pt := .r (.r (.r (.l (.l (.l (.r (.e)))))))
def p199 : Pt := .l (.l (.l (.r (.l (.l (.r (.e)))))))
/-- seesawlaw05.CodeNames -/
def ef10 : EFn := { id := 10, N := 200, res := [(p0, none)], code := (.seq (.region [⟨some p0, .mov (.c (.bool false)), none, 0⟩] false)
 (.seq (.seq (.region [⟨some p10, .call (.c (.fn 34 [] [])) [], none, 0⟩, ⟨some p11, .un .not (.t p10), none, 1⟩, ⟨some p12, .mov (.t p11), none, 3⟩, ⟨some p13, .pick (.t p12) (.c (.bool true)) (.c (.bool false)), none, 7⟩, ⟨some p14, .mov (.t p13), none, 15⟩, ⟨some p15, .pick (.t p14) (.c (.bool true)) (.c (.bool false)), none, 31⟩, ⟨some p16, .mov (.t p15), none, 63⟩, ⟨some p17, .pick (.t p16) (.c (.bool true)) (.c (.bool false)), none, 127⟩, ⟨some p18, .mov (.t p17), none, 255⟩, ⟨some p19, .pick (.t p18) (.c (.bool true)) (.c (.bool false)), none, 511⟩, ⟨some p20, .mov (.t p19), none, 1023⟩, ⟨some p21, .pick (.t p20) (.c (.bool true)) (.c (.bool false)), none, 2047⟩] false)
 (.cond (.t p21) (.seq (.region [⟨some p0, .mov (.c (.bool false)), none, 0⟩] false)
 .ret) .skip))
 (.seq (.region [⟨some p22, .call (.c (.fn 35 [] [])) [], none, 0⟩, ⟨some p23, .buildSl [(.int .u8 (.ofNat 0)), (.int .i64 (.ofNat 0)), (.int .u8 (.ofNat 0)), (.int .i64 (.ofNat 0)), .nils, (.int .u8 (.ofNat 0)), (.int .i64 (.ofNat 0)), .nils, .nils, .nils] 1 [(0, 10, (.t p22))], none, 1⟩, ⟨some p1, .mov (.t p23), none, 3⟩] false)
 (.seq (.region [⟨some p24, .build [(.int .u8 (.ofNat 0)), (.int .i64 (.ofNat 0)), .nils] [(0, 1, (.c (.int .u8 (.ofNat 3)))), (1, 1, (.c (.int .i64 (.ofNat 2))))], none, 0⟩, ⟨some p2, .alloc [(.int .u8 (.ofNat 0)), (.int .i64 (.ofNat 0)), .nils], none, 0⟩, ⟨none, .store 3 (.t p2) (.t p24), none, 3⟩] false)
 (.seq (.seq (.region [⟨some p25, .build [(.int .u8 (.ofNat 0)), (.int .i64 (.ofNat 0)), (.int .u8 (.ofNat 0)), (.int .i64 (.ofNat 0)), .nils, (.int .u8 (.ofNat 0)), (.int .i64 (.ofNat 0)), .nils, .nils, .nils] [], none, 0⟩, ⟨some p26, .build [(.int .u8 (.ofNat 0)), (.int .i64 (.ofNat 0)), (.int .u8 (.ofNat 0)), (.int .i64 (.ofNat 0)), .nils, (.int .u8 (.ofNat 0)), (.int .i64 (.ofNat 0)), .nils, .nils, .nils] [(0, 1, (.c (.int .u8 (.ofNat 9))))], none, 0⟩, ⟨some p27, .build [(.int .u8 (.ofNat 0)), (.int .i64 (.ofNat 0)), (.int .u8 (.ofNat 0)), (.int .i64 (.ofNat 0)), .nils, (.int .u8 (.ofNat 0)), (.int .i64 (.ofNat 0)), .nils, .nils, .nils] [(0, 1, (.c (.int .u8 (.ofNat 1))))], none, 0⟩, ⟨some p28, .call (.c (.fn 36 [] [])) [(.c (.int .i64 (.ofNat 1)))], none, 0⟩, ⟨some p29, .build [(.int .u8 (.ofNat 0)), (.int .i64 (.ofNat 0)), (.int .u8 (.ofNat 0)), (.int .i64 (.ofNat 0)), .nils, (.int .u8 (.ofNat 0)), (.int .i64 (.ofNat 0)), .nils, .nils, .nils] [(0, 1, (.c (.int .u8 (.ofNat 1)))), (2, 3, (.t p28)), (1, 1, (.c (.int .i64 (.ofNat 8))))], none, 8⟩, ⟨some p30, .call (.c (.fn 36 [] [])) [(.c (.int .i64 (.ofNat 1)))], none, 8⟩, ⟨some p31, .build [(.int .u8 (.ofNat 0)), (.int .i64 (.ofNat 0)), (.int .u8 (.ofNat 0)), (.int .i64 (.ofNat 0)), .nils, (.int .u8 (.ofNat 0)), (.int .i64 (.ofNat 0)), .nils, .nils, .nils] [(0, 1, (.c (.int .u8 (.ofNat 1)))), (2, 3, (.t p30)), (1, 1, (.c (.int .i64 (.negSucc 0))))], none, 40⟩, ⟨some p32, .call (.c (.fn 36 [] [])) [(.c (.int .i64 (.ofNat 1)))], none, 40⟩, ⟨some p33, .call (.c (.fn 36 [] [])) [(.c (.int .i64 (.ofNat 1)))], none, 168⟩, ⟨some p34, .build [(.int .u8 (.ofNat 0)), (.int .i64 (.ofNat 0)), (.int .u8 (.ofNat 0)), (.int .i64 (.ofNat 0)), .nils, (.int .u8 (.ofNat 0)), (.int .i64 (.ofNat 0)), .nils, .nils, .nils] [(0, 1, (.c (.int .u8 (.ofNat 1)))), (2, 3, (.t p32)), (5, 3, (.t p33))], none, 424⟩, ⟨some p35, .call (.c (.fn 36 [] [])) [(.c (.int .i64 (.ofNat 1)))], none, 424⟩, ⟨some p36, .mov (.t p1), none, 0⟩, ⟨some p37, .build [(.int .u8 (.ofNat 0)), (.int .i64 (.ofNat 0)), (.int .u8 (.ofNat 0)), (.int .i64 (.ofNat 0)), .nils, (.int .u8 (.ofNat 0)), (.int .i64 (.ofNat 0)), .nils, .nils, .nils] [(0, 1, (.c (.int .u8 (.ofNat 2)))), (2, 3, (.t p35)), (8, 1, (.t p36))], none, 3496⟩, ⟨some p38, .call (.c (.fn 36 [] [])) [(.c (.int .i64 (.ofNat 1)))], none, 1448⟩, ⟨some p39, .build [(.int .u8 (.ofNat 0)), (.int .i64 (.ofNat 0)), (.int .u8 (.ofNat 0)), (.int .i64 (.ofNat 0)), .nils, (.int .u8 (.ofNat 0)), (.int .i64 (.ofNat 0)), .nils, .nils, .nils] [(0, 1, (.c (.int .u8 (.ofNat 3)))), (2, 3, (.t p38))], none, 9640⟩, ⟨some p40, .call (.c (.fn 36 [] [])) [(.c (.int .i64 (.ofNat 1)))], none, 9640⟩, ⟨some p41, .call (.c (.fn 36 [] [])) [(.c (.int .i64 (.ofNat 1)))], none, 42408⟩, ⟨some p42, .build [(.int .u8 (.ofNat 0)), (.int .i64 (.ofNat 0)), (.int .u8 (.ofNat 0)), (.int .i64 (.ofNat 0)), .nils, (.int .u8 (.ofNat 0)), (.int .i64 (.ofNat 0)), .nils, .nils, .nils] [(0, 1, (.c (.int .u8 (.ofNat 3)))), (2, 3, (.t p40)), (5, 3, (.t p41)), (1, 1, (.c (.int .i64 (.ofNat 1))))], none, 107944⟩, ⟨some p43, .mov (.t p1), none, 0⟩, ⟨some p44, .build [(.int .u8 (.ofNat 0)), (.int .i64 (.ofNat 0)), (.int .u8 (.ofNat 0)), (.int .i64 (.ofNat 0)), .nils, (.int .u8 (.ofNat 0)), (.int .i64 (.ofNat 0)), .nils, .nils, .nils] [(0, 1, (.c (.int .u8 (.ofNat 4)))), (8, 1, (.t p43))], none, 262144⟩, ⟨some p45, .call (.c (.fn 36 [] [])) [(.c (.int .i64 (.ofNat 1)))], none, 107944⟩, ⟨some p46, .mov (.t p1), none, 0⟩, ⟨some p47, .build [(.int .u8 (.ofNat 0)), (.int .i64 (.ofNat 0)), (.int .u8 (.ofNat 0)), (.int .i64 (.ofNat 0)), .nils, (.int .u8 (.ofNat 0)), (.int .i64 (.ofNat 0)), .nils, .nils, .nils] [(0, 1, (.c (.int .u8 (.ofNat 5)))), (2, 3, (.t p45)), (9, 1, (.t p46))], none, 3253672⟩, ⟨some p48, .call (.c (.fn 36 [] [])) [(.c (.int .i64 (.ofNat 0)))], none, 1156520⟩, ⟨some p49, .build [(.int .u8 (.ofNat 0)), (.int .i64 (.ofNat 0)), (.int .u8 (.ofNat 0)), (.int .i64 (.ofNat 0)), .nils, (.int .u8 (.ofNat 0)), (.int .i64 (.ofNat 0)), .nils, .nils, .nils] [(0, 1, (.c (.int .u8 (.ofNat 6)))), (2, 3, (.t p48))], none, 9545128⟩, ⟨some p50, .build [(.int .u8 (.ofNat 0)), (.int .i64 (.ofNat 0)), .nils] [(1, 1, (.c (.int .i64 (.ofNat 1))))], none, 0⟩, ⟨some p51, .build [(.int .u8 (.ofNat 0)), (.int .i64 (.ofNat 0)), (.int .u8 (.ofNat 0)), (.int .i64 (.ofNat 0)), .nils, (.int .u8 (.ofNat 0)), (.int .i64 (.ofNat 0)), .nils, .nils, .nils] [(0, 1, (.c (.int .u8 (.ofNat 6)))), (5, 3, (.t p50))], none, 33554432⟩, ⟨some p52, .call (.c (.fn 36 [] [])) [(.c (.int .i64 (.ofNat 1)))], none, 9545128⟩, ⟨some p53, .mov (.t p1), none, 0⟩, ⟨some p54, .build [(.int .u8 (.ofNat 0)), (.int .i64 (.ofNat 0)), (.int .u8 (.ofNat 0)), (.int .i64 (.ofNat 0)), .nils, (.int .u8 (.ofNat 0)), (.int .i64 (.ofNat 0)), .nils, .nils, .nils] [(0, 1, (.c (.int .u8 (.ofNat 7)))), (2, 3, (.t p52)), (8, 1, (.t p53))], none, 412198312⟩, ⟨some p55, .loadN 3 (.t p2), none, 0⟩, ⟨some p56, .build [(.int .u8 (.ofNat 0)), (.int .i64 (.ofNat 0)), (.int .u8 (.ofNat 0)), (.int .i64 (.ofNat 0)), .nils, (.int .u8 (.ofNat 0)), (.int .i64 (.ofNat 0)), .nils, .nils, .nils] [(0, 1, (.c (.int .u8 (.ofNat 8)))), (2, 3, (.t p55))], none, 1073741824⟩, ⟨some p57, .call (.c (.fn 36 [] [])) [(.c (.int .i64 (.ofNat 1)))], none, 143762856⟩, ⟨some p58, .build [(.int .u8 (.ofNat 0)), (.int .i64 (.ofNat 0)), (.int .u8 (.ofNat 0)), (.int .i64 (.ofNat 0)), .nils, (.int .u8 (.ofNat 0)), (.int .i64 (.ofNat 0)), .nils, .nils, .nils] [], none, 0⟩, ⟨some p59, .buildSl [(.int .u8 (.ofNat 0)), (.int .i64 (.ofNat 0)), (.int .u8 (.ofNat 0)), (.int .i64 (.ofNat 0)), .nils, (.int .u8 (.ofNat 0)), (.int .i64 (.ofNat 0)), .nils, .nils, .nils] 1 [(0, 10, (.t p58))], none, 8589934592⟩, ⟨some p60, .build [(.int .u8 (.ofNat 0)), (.int .i64 (.ofNat 0)), (.int .u8 (.ofNat 0)), (.int .i64 (.ofNat 0)), .nils, (.int .u8 (.ofNat 0)), (.int .i64 (.ofNat 0)), .nils, .nils, .nils] [(0, 1, (.c (.int .u8 (.ofNat 4)))), (2, 3, (.t p57)), (8, 1, (.t p59))], none, 30208533928⟩, ⟨some p61, .build [(.int .u8 (.ofNat 0)), (.int .i64 (.ofNat 0)), (.int .u8 (.ofNat 0)), (.int .i64 (.ofNat 0)), .nils, (.int .u8 (.ofNat 0)), (.int .i64 (.ofNat 0)), .nils, .nils, .nils] [(0, 1, (.c (.int .u8 (.ofNat 9))))], none, 0⟩, ⟨some p62, .buildSl [(.int .u8 (.ofNat 0)), (.int .i64 (.ofNat 0)), (.int .u8 (.ofNat 0)), (.int .i64 (.ofNat 0)), .nils, (.int .u8 (.ofNat 0)), (.int .i64 (.ofNat 0)), .nils, .nils, .nils] 1 [(0, 10, (.t p61))], none, 68719476736⟩, ⟨some p63, .build [(.int .u8 (.ofNat 0)), (.int .i64 (.ofNat 0)), (.int .u8 (.ofNat 0)), (.int .i64 (.ofNat 0)), .nils, (.int .u8 (.ofNat 0)), (.int .i64 (.ofNat 0)), .nils, .nils, .nils] [(0, 1, (.c (.int .u8 (.ofNat 7)))), (9, 1, (.t p62))], none, 206158430208⟩, ⟨some p64, .buildSl [(.int .u8 (.ofNat 0)), (.int .i64 (.ofNat 0)), (.int .u8 (.ofNat 0)), (.int .i64 (.ofNat 0)), .nils, (.int .u8 (.ofNat 0)), (.int .i64 (.ofNat 0)), .nils, .nils, .nils, (.int .u8 (.ofNat 0)), (.int .i64 (.ofNat 0)), (.int .u8 (.ofNat 0)), (.int .i64 (.ofNat 0)), .nils, (.int .u8 (.ofNat 0)), (.int .i64 (.ofNat 0)), .nils, .nils, .nils, (.int .u8 (.ofNat 0)), (.int .i64 (.ofNat 0)), (.int .u8 (.ofNat 0)), (.int .i64 (.ofNat 0)), .nils, (.int .u8 (.ofNat 0)), (.int .i64 (.ofNat 0)), .nils, .nils, .nils, (.int .u8 (.ofNat 0)), (.int .i64 (.ofNat 0)), (.int .u8 (.ofNat 0)), (.int .i64 (.ofNat 0)), .nils, (.int .u8 (.ofNat 0)), (.int .i64 (.ofNat 0)), .nils, .nils, .nils, (.int .u8 (.ofNat 0)), (.int .i64 (.ofNat 0)), (.int .u8 (.ofNat 0)), (.int .i64 (.ofNat 0)), .nils, (.int .u8 (.ofNat 0)), (.int .i64 (.ofNat 0)), .nils, .nils, .nils, (.int .u8 (.ofNat 0)), (.int .i64 (.ofNat 0)), (.int .u8 (.ofNat 0)), (.int .i64 (.ofNat 0)), .nils, (.int .u8 (.ofNat 0)), (.int .i64 (.ofNat 0)), .nils, .nils, .nils, (.int .u8 (.ofNat 0)), (.int .i64 (.ofNat 0)), (.int .u8 (.ofNat 0)), (.int .i64 (.ofNat 0)), .nils, (.int .u8 (.ofNat 0)), (.int .i64 (.ofNat 0)), .nils, .nils, .nils, (.int .u8 (.ofNat 0)), (.int .i64 (.ofNat 0)), (.int .u8 (.ofNat 0)), (.int .i64 (.ofNat 0)), .nils, (.int .u8 (.ofNat 0)), (.int .i64 (.ofNat 0)), .nils, .nils, .nils, (.int .u8 (.ofNat 0)), (.int .i64 (.ofNat 0)), (.int .u8 (.ofNat 0)), (.int .i64 (.ofNat 0)), .nils, (.int .u8 (.ofNat 0)), (.int .i64 (.ofNat 0)), .nils, .nils, .nils, (.int .u8 (.ofNat 0)), (.int .i64 (.ofNat 0)), (.int .u8 (.ofNat 0)), (.int .i64 (.ofNat 0)), .nils, (.int .u8 (.ofNat 0)), (.int .i64 (.ofNat 0)), .nils, .nils, .nils, (.int .u8 (.ofNat 0)), (.int .i64 (.ofNat 0)), (.int .u8 (.ofNat 0)), (.int .i64 (.ofNat 0)), .nils, (.int .u8 (.ofNat 0)), (.int .i64 (.ofNat 0)), .nils, .nils, .nils, (.int .u8 (.ofNat 0)), (.int .i64 (.ofNat 0)), (.int .u8 (.ofNat 0)), (.int .i64 (.ofNat 0)), .nils, (.int .u8 (.ofNat 0)), (.int .i64 (.ofNat 0)), .nils, .nils, .nils, (.int .u8 (.ofNat 0)), (.int .i64 (.ofNat 0)), (.int .u8 (.ofNat 0)), (.int .i64 (.ofNat 0)), .nils, (.int .u8 (.ofNat 0)), (.int .i64 (.ofNat 0)), .nils, .nils, .nils, (.int .u8 (.ofNat 0)), (.int .i64 (.ofNat 0)), (.int .u8 (.ofNat 0)), (.int .i64 (.ofNat 0)), .nils, (.int .u8 (.ofNat 0)), (.int .i64 (.ofNat 0)), .nils, .nils, .nils, (.int .u8 (.ofNat 0)), (.int .i64 (.ofNat 0)), (.int .u8 (.ofNat 0)), (.int .i64 (.ofNat 0)), .nils, (.int .u8 (.ofNat 0)), (.int .i64 (.ofNat 0)), .nils, .nils, .nils, (.int .u8 (.ofNat 0)), (.int .i64 (.ofNat 0)), (.int .u8 (.ofNat 0)), (.int .i64 (.ofNat 0)), .nils, (.int .u8 (.ofNat 0)), (.int .i64 (.ofNat 0)), .nils, .nils, .nils, (.int .u8 (.ofNat 0)), (.int .i64 (.ofNat 0)), (.int .u8 (.ofNat 0)), (.int .i64 (.ofNat 0)), .nils, (.int .u8 (.ofNat 0)), (.int .i64 (.ofNat 0)), .nils, .nils, .nils] 17 [(0, 10, (.t p25)), (10, 10, (.t p26)), (20, 10, (.t p27)), (30, 10, (.t p29)), (40, 10, (.t p31)), (50, 10, (.t p34)), (60, 10, (.t p37)), (70, 10, (.t p39)), (80, 10, (.t p42)), (90, 10, (.t p44)), (100, 10, (.t p47)), (110, 10, (.t p49)), (120, 10, (.t p51)), (130, 10, (.t p54)), (140, 10, (.t p56)), (150, 10, (.t p60)), (160, 10, (.t p63))], none, 549755813887⟩, ⟨some p65, .len false (.t p64), none, 1099511627775⟩, ⟨some p66, .mov (.c (.int .i64 (.ofNat 0))), none, 0⟩] true)
 (.block 0 (.loop (.seq (.region [⟨some p67, .bin .lss (.t p66) (.t p65), none, 0⟩] false)
 (.seq (.cond (.t p67) .skip (.exit 0))
 (.seq (.block 1 (.seq (.region [⟨some p68, .iaddrS 10 (.t p64) (.t p66), none, 0⟩, ⟨some p69, .loadN 10 (.t p68), none, 1⟩, ⟨some p4, .alloc [(.int .u8 (.ofNat 0)), (.int .i64 (.ofNat 0)), (.int .u8 (.ofNat 0)), (.int .i64 (.ofNat 0)), .nils, (.int .u8 (.ofNat 0)), (.int .i64 (.ofNat 0)), .nils, .nils, .nils], none, 0⟩, ⟨none, .store 10 (.t p4) (.t p69), none, 7⟩] false)
 (.seq (.region [⟨some p70, .loadN 10 (.t p4), none, 0⟩, ⟨some p71, .buildSl [(.int .u8 (.ofNat 0)), (.int .i64 (.ofNat 0)), (.int .u8 (.ofNat 0)), (.int .i64 (.ofNat 0)), .nils, (.int .u8 (.ofNat 0)), (.int .i64 (.ofNat 0)), .nils, .nils, .nils] 1 [(0, 10, (.t p70))], none, 1⟩, ⟨some p72, .call (.c (.fn 37 [] [])) [(.t p71), (.c (.int .i64 (.ofNat 2)))], none, 3⟩, ⟨some p73, .mov (.t p72), none, 7⟩, ⟨some p74, .call (.c (.fn 35 [] [])) [], some (p73, false), 15⟩, ⟨some p75, .loadN 10 (.t p4), some (p73, false), 15⟩, ⟨some p76, .buildSl [(.int .u8 (.ofNat 0)), (.int .i64 (.ofNat 0)), (.int .u8 (.ofNat 0)), (.int .i64 (.ofNat 0)), .nils, (.int .u8 (.ofNat 0)), (.int .i64 (.ofNat 0)), .nils, .nils, .nils, (.int .u8 (.ofNat 0)), (.int .i64 (.ofNat 0)), (.int .u8 (.ofNat 0)), (.int .i64 (.ofNat 0)), .nils, (.int .u8 (.ofNat 0)), (.int .i64 (.ofNat 0)), .nils, .nils, .nils] 2 [(0, 10, (.t p74)), (10, 10, (.t p75))], some (p73, false), 63⟩, ⟨some p77, .call (.c (.fn 37 [] [])) [(.t p76), (.c (.int .i64 (.ofNat 2)))], some (p73, false), 127⟩, ⟨some p78, .pick (.t p73) (.c (.bool true)) (.t p77), none, 255⟩] true)
 (.cond (.t p78) (.seq (.region [⟨some p0, .mov (.c (.bool false)), none, 0⟩] false)
 .ret) .skip))))
 (.region [⟨some p79, .bin .add (.t p66) (.c (.int .i64 (.ofNat 1))), none, 0⟩, ⟨some p66, .mov (.t p79), none, 1⟩] false)))))))
 (.seq (.seq (.region [⟨some p80, .call (.c (.fn 36 [] [])) [(.c (.int .i64 (.ofNat 1)))], none, 0⟩, ⟨some p81, .build [(.int .u8 (.ofNat 0)), (.int .i64 (.ofNat 0)), (.int .u8 (.ofNat 0)), (.int .i64 (.ofNat 0)), .nils, (.int .u8 (.ofNat 0)), (.int .i64 (.ofNat 0)), .nils, .nils, .nils] [(0, 1, (.c (.int .u8 (.ofNat 1)))), (2, 3, (.t p80)), (1, 1, (.c (.int .i64 (.ofNat 7))))], none, 1⟩, ⟨some p82, .call (.c (.fn 35 [] [])) [], none, 1⟩, ⟨some p83, .call (.c (.fn 38 [] [])) [], none, 5⟩, ⟨some p84, .call (.c (.fn 36 [] [])) [(.c (.int .i64 (.ofNat 1)))], none, 13⟩, ⟨some p85, .build [(.int .u8 (.ofNat 0)), (.int .i64 (.ofNat 0)), (.int .u8 (.ofNat 0)), (.int .i64 (.ofNat 0)), .nils, (.int .u8 (.ofNat 0)), (.int .i64 (.ofNat 0)), .nils, .nils, .nils] [(0, 1, (.c (.int .u8 (.ofNat 4)))), (2, 3, (.t p84))], none, 29⟩, ⟨some p86, .call (.c (.fn 36 [] [])) [(.c (.int .i64 (.ofNat 1)))], none, 29⟩, ⟨some p87, .mov (.t p1), none, 0⟩, ⟨some p88, .build [(.int .u8 (.ofNat 0)), (.int .i64 (.ofNat 0)), (.int .u8 (.ofNat 0)), (.int .i64 (.ofNat 0)), .nils, (.int .u8 (.ofNat 0)), (.int .i64 (.ofNat 0)), .nils, .nils, .nils] [(0, 1, (.c (.int .u8 (.ofNat 5)))), (2, 3, (.t p86)), (8, 1, (.t p87))], none, 221⟩, ⟨some p89, .build [(.int .u8 (.ofNat 0)), (.int .i64 (.ofNat 0)), (.int .u8 (.ofNat 0)), (.int .i64 (.ofNat 0)), .nils, (.int .u8 (.ofNat 0)), (.int .i64 (.ofNat 0)), .nils, .nils, .nils] [(0, 1, (.c (.int .u8 (.ofNat 6))))], none, 0⟩, ⟨some p90, .mov (.t p1), none, 0⟩, ⟨some p91, .mov (.t p1), none, 0⟩, ⟨some p92, .build [(.int .u8 (.ofNat 0)), (.int .i64 (.ofNat 0)), (.int .u8 (.ofNat 0)), (.int .i64 (.ofNat 0)), .nils, (.int .u8 (.ofNat 0)), (.int .i64 (.ofNat 0)), .nils, .nils, .nils] [(0, 1, (.c (.int .u8 (.ofNat 7)))), (8, 1, (.t p90)), (9, 1, (.t p91))], none, 3072⟩, ⟨some p93, .loadN 3 (.t p2), none, 0⟩, ⟨some p94, .build [(.int .u8 (.ofNat 0)), (.int .i64 (.ofNat 0)), (.int .u8 (.ofNat 0)), (.int .i64 (.ofNat 0)), .nils, (.int .u8 (.ofNat 0)), (.int .i64 (.ofNat 0)), .nils, .nils, .nils] [(0, 1, (.c (.int .u8 (.ofNat 8)))), (2, 3, (.t p93))], none, 8192⟩, ⟨some p95, .buildSl [(.int .u8 (.ofNat 0)), (.int .i64 (.ofNat 0)), (.int .u8 (.ofNat 0)), (.int .i64 (.ofNat 0)), .nils, (.int .u8 (.ofNat 0)), (.int .i64 (.ofNat 0)), .nils, .nils, .nils, (.int .u8 (.ofNat 0)), (.int .i64 (.ofNat 0)), (.int .u8 (.ofNat 0)), (.int .i64 (.ofNat 0)), .nils, (.int .u8 (.ofNat 0)), (.int .i64 (.ofNat 0)), .nils, .nils, .nils, (.int .u8 (.ofNat 0)), (.int .i64 (.ofNat 0)), (.int .u8 (.ofNat 0)), (.int .i64 (.ofNat 0)), .nils, (.int .u8 (.ofNat 0)), (.int .i64 (.ofNat 0)), .nils, .nils, .nils, (.int .u8 (.ofNat 0)), (.int .i64 (.ofNat 0)), (.int .u8 (.ofNat 0)), (.int .i64 (.ofNat 0)), .nils, (.int .u8 (.ofNat 0)), (.int .i64 (.ofNat 0)), .nils, .nils, .nils, (.int .u8 (.ofNat 0)), (.int .i64 (.ofNat 0)), (.int .u8 (.ofNat 0)), (.int .i64 (.ofNat 0)), .nils, (.int .u8 (.ofNat 0)), (.int .i64 (.ofNat 0)), .nils, .nils, .nils, (.int .u8 (.ofNat 0)), (.int .i64 (.ofNat 0)), (.int .u8 (.ofNat 0)), (.int .i64 (.ofNat 0)), .nils, (.int .u8 (.ofNat 0)), (.int .i64 (.ofNat 0)), .nils, .nils, .nils, (.int .u8 (.ofNat 0)), (.int .i64 (.ofNat 0)), (.int .u8 (.ofNat 0)), (.int .i64 (.ofNat 0)), .nils, (.int .u8 (.ofNat 0)), (.int .i64 (.ofNat 0)), .nils, .nils, .nils, (.int .u8 (.ofNat 0)), (.int .i64 (.ofNat 0)), (.int .u8 (.ofNat 0)), (.int .i64 (.ofNat 0)), .nils, (.int .u8 (.ofNat 0)), (.int .i64 (.ofNat 0)), .nils, .nils, .nils] 8 [(0, 10, (.t p81)), (10, 10, (.t p82)), (20, 10, (.t p83)), (30, 10, (.t p85)), (40, 10, (.t p88)), (50, 10, (.t p89)), (60, 10, (.t p92)), (70, 10, (.t p94))], none, 32767⟩, ⟨some p96, .len false (.t p95), none, 65535⟩, ⟨some p97, .mov (.c (.int .i64 (.ofNat 0))), none, 0⟩] true)
 (.block 2 (.loop (.seq (.region [⟨some p98, .bin .lss (.t p97) (.t p96), none, 0⟩] false)
 (.seq (.cond (.t p98) .skip (.exit 2))
 (.seq (.block 3 (.seq (.region [⟨some p99, .iaddrS 10 (.t p95) (.t p97), none, 0⟩, ⟨some p100, .loadN 10 (.t p99), none, 1⟩, ⟨some p6, .alloc [(.int .u8 (.ofNat 0)), (.int .i64 (.ofNat 0)), (.int .u8 (.ofNat 0)), (.int .i64 (.ofNat 0)), .nils, (.int .u8 (.ofNat 0)), (.int .i64 (.ofNat 0)), .nils, .nils, .nils], none, 0⟩, ⟨none, .store 10 (.t p6) (.t p100), none, 7⟩] false)
 (.seq (.region [⟨some p101, .loadN 10 (.t p6), none, 0⟩, ⟨some p102, .buildSl [(.int .u8 (.ofNat 0)), (.int .i64 (.ofNat 0)), (.int .u8 (.ofNat 0)), (.int .i64 (.ofNat 0)), .nils, (.int .u8 (.ofNat 0)), (.int .i64 (.ofNat 0)), .nils, .nils, .nils] 1 [(0, 10, (.t p101))], none, 1⟩, ⟨some p103, .call (.c (.fn 37 [] [])) [(.t p102), (.c (.int .i64 (.ofNat 3)))], none, 3⟩, ⟨some p104, .un .not (.t p103), none, 7⟩] false)
 (.cond (.t p104) (.seq (.region [⟨some p0, .mov (.c (.bool false)), none, 0⟩] false)
 .ret) .skip))))
 (.region [⟨some p105, .bin .add (.t p97) (.c (.int .i64 (.ofNat 1))), none, 0⟩, ⟨some p97, .mov (.t p105), none, 1⟩] false)))))))
 (.seq (.seq (.region [⟨some p106, .call (.c (.fn 37 [] [])) [(.c .nils), (.c (.int .i64 (.ofNat 0)))], none, 0⟩, ⟨some p107, .un .not (.t p106), none, 1⟩, ⟨some p108, .mov (.t p107), none, 3⟩, ⟨some p109, .call (.c (.fn 37 [] [])) [(.c .nils), (.c (.int .i64 (.ofNat 6)))], some (p108, false), 7⟩, ⟨some p110, .pick (.t p108) (.c (.bool true)) (.t p109), none, 15⟩, ⟨some p111, .mov (.t p110), none, 31⟩, ⟨some p112, .call (.c (.fn 37 [] [])) [(.c .nils), (.c (.int .i64 (.negSucc 0)))], some (p111, false), 63⟩, ⟨some p113, .pick (.t p111) (.c (.bool true)) (.t p112), none, 127⟩, ⟨some p114, .mov (.t p113), none, 255⟩, ⟨some p115, .call (.c (.fn 35 [] [])) [], some (p114, false), 511⟩, ⟨some p116, .call (.c (.fn 39 [] [])) [(.c (.int .i64 (.ofNat 6))), (.t p115)], some (p114, false), 1023⟩, ⟨some p117, .call (.c (.fn 37 [] [])) [(.t p116), (.c (.int .i64 (.ofNat 0)))], some (p114, false), 2047⟩, ⟨some p118, .un .not (.t p117), some (p114, false), 4095⟩, ⟨some p119, .pick (.t p114) (.c (.bool true)) (.t p118), none, 8191⟩, ⟨some p120, .mov (.t p119), none, 16383⟩, ⟨some p121, .call (.c (.fn 35 [] [])) [], some (p120, false), 32767⟩, ⟨some p122, .call (.c (.fn 39 [] [])) [(.c (.int .i64 (.ofNat 7))), (.t p121)], some (p120, false), 65535⟩, ⟨some p123, .call (.c (.fn 37 [] [])) [(.t p122), (.c (.int .i64 (.ofNat 0)))], some (p120, false), 131071⟩, ⟨some p124, .pick (.t p120) (.c (.bool true)) (.t p123), none, 262143⟩, ⟨some p125, .mov (.t p124), none, 524287⟩, ⟨some p126, .call (.c (.fn 35 [] [])) [], some (p125, false), 1048575⟩, ⟨some p127, .call (.c (.fn 40 [] [])) [(.c (.int .i64 (.ofNat 40))), (.t p126)], some (p125, false), 2097151⟩, ⟨some p128, .call (.c (.fn 37 [] [])) [(.t p127), (.c (.int .i64 (.ofNat 5)))], some (p125, false), 4194303⟩, ⟨some p129, .un .not (.t p128), some (p125, false), 8388607⟩, ⟨some p130, .pick (.t p125) (.c (.bool true)) (.t p129), none, 16777215⟩, ⟨some p131, .mov (.t p130), none, 33554431⟩, ⟨some p132, .call (.c (.fn 35 [] [])) [], some (p131, false), 67108863⟩, ⟨some p133, .call (.c (.fn 40 [] [])) [(.c (.int .i64 (.ofNat 41))), (.t p132)], some (p131, false), 134217727⟩, ⟨some p134, .call (.c (.fn 37 [] [])) [(.t p133), (.c (.int .i64 (.ofNat 5)))], some (p131, false), 268435455⟩, ⟨some p135, .pick (.t p131) (.c (.bool true)) (.t p134), none, 536870911⟩] false)
 (.cond (.t p135) (.seq (.region [⟨some p0, .mov (.c (.bool false)), none, 0⟩] false)
 .ret) .skip))
 (.seq (.region [⟨some p7, .mov (.c (.fn 41 [] [])), none, 0⟩] false)
 (.seq (.region [⟨some p136, .call (.c (.fn 35 [] [])) [], none, 0⟩, ⟨some p137, .call (.c (.fn 40 [] [])) [(.c (.int .i64 (.ofNat 3))), (.t p136)], none, 1⟩, ⟨some p138, .call (.c (.fn 35 [] [])) [], none, 3⟩, ⟨some p139, .call (.c (.fn 40 [] [])) [(.c (.int .i64 (.ofNat 2))), (.t p138)], none, 7⟩, ⟨some p140, .build [(.int .u8 (.ofNat 0)), (.int .i64 (.ofNat 0)), (.int .u8 (.ofNat 0)), (.int .i64 (.ofNat 0)), .nils, (.int .u8 (.ofNat 0)), (.int .i64 (.ofNat 0)), .nils, .nils, .nils] [(0, 1, (.c (.int .u8 (.ofNat 7)))), (8, 1, (.t p137)), (9, 1, (.t p139))], none, 15⟩, ⟨some p141, .buildSl [(.int .u8 (.ofNat 0)), (.int .i64 (.ofNat 0)), (.int .u8 (.ofNat 0)), (.int .i64 (.ofNat 0)), .nils, (.int .u8 (.ofNat 0)), (.int .i64 (.ofNat 0)), .nils, .nils, .nils] 1 [(0, 10, (.t p140))], none, 31⟩, ⟨some p8, .mov (.t p141), none, 63⟩] false)
 (.seq (.region [⟨some p142, .call (.c (.fn 36 [] [])) [(.c (.int .i64 (.ofNat 1)))], none, 0⟩, ⟨some p143, .call (.c (.fn 35 [] [])) [], none, 1⟩, ⟨some p144, .call (.c (.fn 40 [] [])) [(.c (.int .i64 (.ofNat 3))), (.t p143)], none, 3⟩, ⟨some p145, .call (.c (.fn 35 [] [])) [], none, 7⟩, ⟨some p146, .call (.c (.fn 40 [] [])) [(.c (.int .i64 (.ofNat 2))), (.t p145)], none, 15⟩, ⟨some p147, .build [(.int .u8 (.ofNat 0)), (.int .i64 (.ofNat 0)), (.int .u8 (.ofNat 0)), (.int .i64 (.ofNat 0)), .nils, (.int .u8 (.ofNat 0)), (.int .i64 (.ofNat 0)), .nils, .nils, .nils] [(0, 1, (.c (.int .u8 (.ofNat 4)))), (2, 3, (.t p142)), (8, 1, (.t p144)), (9, 1, (.t p146))], none, 31⟩, ⟨some p148, .buildSl [(.int .u8 (.ofNat 0)), (.int .i64 (.ofNat 0)), (.int .u8 (.ofNat 0)), (.int .i64 (.ofNat 0)), .nils, (.int .u8 (.ofNat 0)), (.int .i64 (.ofNat 0)), .nils, .nils, .nils] 1 [(0, 10, (.t p147))], none, 63⟩, ⟨some p9, .mov (.t p148), none, 127⟩] false)
 (.seq (.region [⟨some p149, .mov (.t p7), none, 0⟩, ⟨some p150, .call (.t p149) [(.c (.int .i64 (.ofNat 3)))], none, 1⟩, ⟨some p151, .call (.c (.fn 42 [] [])) [(.t p150)], none, 3⟩, ⟨some p152, .bin .eql (.t p151) (.c (.int .i64 (.ofNat 1609))), none, 7⟩, ⟨some p153, .mov (.t p152), none, 15⟩, ⟨some p154, .mov (.t p7), some (p153, true), 31⟩, ⟨some p155, .call (.t p154) [(.c (.int .i64 (.ofNat 3)))], some (p153, true), 63⟩, ⟨some p156, .call (.c (.fn 37 [] [])) [(.t p155), (.c (.int .i64 (.ofNat 0)))], some (p153, true), 127⟩, ⟨some p157, .pick (.t p153) (.t p156) (.c (.bool false)), none, 255⟩, ⟨some p158, .mov (.t p157), none, 511⟩, ⟨some p159, .mov (.t p7), some (p158, true), 1023⟩, ⟨some p160, .call (.t p159) [(.c (.int .i64 (.ofNat 4)))], some (p158, true), 2047⟩, ⟨some p161, .call (.c (.fn 42 [] [])) [(.t p160)], some (p158, true), 4095⟩, ⟨some p162, .bin .eql (.t p161) (.c (.int .i64 (.ofNat 2001))), some (p158, true), 8191⟩, ⟨some p163, .pick (.t p158) (.t p162) (.c (.bool false)), none, 16383⟩, ⟨some p164, .mov (.t p163), none, 32767⟩, ⟨some p165, .mov (.t p7), some (p164, true), 65535⟩, ⟨some p166, .call (.t p165) [(.c (.int .i64 (.ofNat 4)))], some (p164, true), 131071⟩, ⟨some p167, .call (.c (.fn 37 [] [])) [(.t p166), (.c (.int .i64 (.ofNat 0)))], some (p164, true), 262143⟩, ⟨some p168, .un .not (.t p167), some (p164, true), 524287⟩, ⟨some p169, .pick (.t p164) (.t p168) (.c (.bool false)), none, 1048575⟩, ⟨some p170, .mov (.t p169), none, 2097151⟩, ⟨some p171, .mov (.t p8), some (p170, true), 4194303⟩, ⟨some p172, .call (.c (.fn 42 [] [])) [(.t p171)], some (p170, true), 8388607⟩, ⟨some p173, .bin .eql (.t p172) (.c (.int .i64 (.ofNat 6))), some (p170, true), 16777215⟩, ⟨some p174, .pick (.t p170) (.t p173) (.c (.bool false)), none, 33554431⟩, ⟨some p175, .mov (.t p174), none, 67108863⟩, ⟨some p176, .mov (.t p9), some (p175, true), 134217727⟩, ⟨some p177, .call (.c (.fn 42 [] [])) [(.t p176)], some (p175, true), 268435455⟩, ⟨some p178, .bin .eql (.t p177) (.c (.int .i64 (.ofNat 4))), some (p175, true), 536870911⟩, ⟨some p179, .pick (.t p175) (.t p178) (.c (.bool false)), none, 1073741823⟩, ⟨some p180, .mov (.t p179), none, 2147483647⟩, ⟨some p181, .call (.c (.fn 42 [] [])) [(.c .nils)], some (p180, true), 4294967295⟩, ⟨some p182, .bin .eql (.t p181) (.c (.int .i64 (.ofNat 0))), some (p180, true), 8589934591⟩, ⟨some p183, .pick (.t p180) (.t p182) (.c (.bool false)), none, 17179869183⟩, ⟨some p184, .mov (.t p183), none, 34359738367⟩, ⟨some p185, .call (.c (.fn 43 [] [])) [(.c .nils)], some (p184, true), 68719476735⟩, ⟨some p186, .bin .eql (.t p185) (.c (.int .i64 (.ofNat 1))), some (p184, true), 137438953471⟩, ⟨some p187, .pick (.t p184) (.t p186) (.c (.bool false)), none, 274877906943⟩, ⟨some p188, .mov (.t p187), none, 549755813887⟩, ⟨some p189, .mov (.t p8), some (p188, true), 1099511627775⟩, ⟨some p190, .mov (.t p8), some (p188, true), 1099511627775⟩, ⟨some p191, .call (.c (.fn 45 [] [])) [(.t p190)], some (p188, true), 3298534883327⟩, ⟨some p192, .call (.c (.fn 44 [] [])) [(.t p189), (.t p191)], some (p188, true), 8796093022207⟩, ⟨some p193, .pick (.t p188) (.t p192) (.c (.bool false)), none, 17592186044415⟩, ⟨some p194, .mov (.t p193), none, 35184372088831⟩, ⟨some p195, .mov (.t p8), some (p194, true), 70368744177663⟩, ⟨some p196, .mov (.t p9), some (p194, true), 70368744177663⟩, ⟨some p197, .call (.c (.fn 44 [] [])) [(.t p195), (.t p196)], some (p194, true), 281474976710655⟩, ⟨some p198, .un .not (.t p197), some (p194, true), 562949953421311⟩, ⟨some p199, .pick (.t p194) (.t p198) (.c (.bool false)), none, 1125899906842623⟩, ⟨some p0, .mov (.t p199), none, 2251799813685247⟩] false)
 .ret))))))))))) }
theorem ok10 : cFn Try.prog 10 = some ef10 := by kernel_rfl
/-- seesawlaw05.works -/
def ef34 : EFn := { id := 34, N := 59, res := [(p0, none)], code := (.seq (.region [⟨some p0, .mov (.c (.bool false)), none, 0⟩] false)
 (.seq (.region [⟨some p6, .call (.c (.fn 35 [] [])) [], none, 0⟩, ⟨some p7, .call (.c (.fn 36 [] [])) [(.c (.int .i64 (.ofNat 1)))], none, 1⟩, ⟨some p8, .build [(.int .u8 (.ofNat 0)), (.int .i64 (.ofNat 0)), (.int .u8 (.ofNat 0)), (.int .i64 (.ofNat 0)), .nils, (.int .u8 (.ofNat 0)), (.int .i64 (.ofNat 0)), .nils, .nils, .nils] [(0, 1, (.c (.int .u8 (.ofNat 6))))], none, 0⟩, ⟨some p9, .buildSl [(.int .u8 (.ofNat 0)), (.int .i64 (.ofNat 0)), (.int .u8 (.ofNat 0)), (.int .i64 (.ofNat 0)), .nils, (.int .u8 (.ofNat 0)), (.int .i64 (.ofNat 0)), .nils, .nils, .nils] 1 [(0, 10, (.t p8))], none, 4⟩, ⟨some p10, .build [(.int .u8 (.ofNat 0)), (.int .i64 (.ofNat 0)), (.int .u8 (.ofNat 0)), (.int .i64 (.ofNat 0)), .nils, (.int .u8 (.ofNat 0)), (.int .i64 (.ofNat 0)), .nils, .nils, .nils] [(0, 1, (.c (.int .u8 (.ofNat 4)))), (2, 3, (.t p7)), (8, 1, (.t p9))], none, 15⟩, ⟨some p11, .buildSl [(.int .u8 (.ofNat 0)), (.int .i64 (.ofNat 0)), (.int .u8 (.ofNat 0)), (.int .i64 (.ofNat 0)), .nils, (.int .u8 (.ofNat 0)), (.int .i64 (.ofNat 0)), .nils, .nils, .nils, (.int .u8 (.ofNat 0)), (.int .i64 (.ofNat 0)), (.int .u8 (.ofNat 0)), (.int .i64 (.ofNat 0)), .nils, (.int .u8 (.ofNat 0)), (.int .i64 (.ofNat 0)), .nils, .nils, .nils] 2 [(0, 10, (.t p6)), (10, 10, (.t p10))], none, 31⟩, ⟨some p1, .mov (.t p11), none, 63⟩] false)
 (.seq (.region [⟨some p13, .mov (.t p1), none, 0⟩, ⟨some p14, .call (.c (.fn 70 [] [])) [(.t p13)], none, 1⟩, ⟨some p12, .mov (.t p14), none, 3⟩, ⟨some p15, .ext 0 (.t p12), none, 7⟩, ⟨some p16, .ext 1 (.t p12), none, 7⟩, ⟨some p2, .mov (.t p15), none, 15⟩, ⟨some p3, .mov (.t p16), none, 63⟩] false)
 (.seq (.region [⟨some p17, .call (.c (.fn 36 [] [])) [(.c (.int .i64 (.ofNat 3)))], none, 0⟩, ⟨some p18, .call (.c (.fn 38 [] [])) [], none, 1⟩, ⟨some p19, .buildSl [(.int .u8 (.ofNat 0)), (.int .i64 (.ofNat 0)), (.int .u8 (.ofNat 0)), (.int .i64 (.ofNat 0)), .nils, (.int .u8 (.ofNat 0)), (.int .i64 (.ofNat 0)), .nils, .nils, .nils] 1 [(0, 10, (.t p18))], none, 3⟩, ⟨some p20, .build [(.int .u8 (.ofNat 0)), (.int .i64 (.ofNat 0)), (.int .u8 (.ofNat 0)), (.int .i64 (.ofNat 0)), .nils, (.int .u8 (.ofNat 0)), (.int .i64 (.ofNat 0)), .nils, .nils, .nils] [(0, 1, (.c (.int .u8 (.ofNat 5)))), (2, 3, (.t p17)), (8, 1, (.t p19))], none, 7⟩, ⟨some p21, .buildSl [(.int .u8 (.ofNat 0)), (.int .i64 (.ofNat 0)), (.int .u8 (.ofNat 0)), (.int .i64 (.ofNat 0)), .nils, (.int .u8 (.ofNat 0)), (.int .i64 (.ofNat 0)), .nils, .nils, .nils] 1 [(0, 10, (.t p20))], none, 15⟩, ⟨some p4, .mov (.t p21), none, 31⟩] false)
 (.seq (.region [⟨some p22, .call (.c (.fn 71 [] [])) [], none, 0⟩, ⟨some p5, .alloc [(.int .u8 (.ofNat 0)), (.int .i64 (.ofNat 0)), (.int .u8 (.ofNat 0)), (.int .i64 (.ofNat 0)), .nils, (.int .u8 (.ofNat 0)), (.int .i64 (.ofNat 0)), .nils, .nils, .nils], none, 0⟩, ⟨none, .store 10 (.t p5) (.t p22), none, 3⟩] false)
 (.seq (.region [⟨some p23, .faddr 1 (.t p5), none, 0⟩, ⟨none, .store 1 (.t p23) (.c (.int .i64 (.ofNat 1))), none, 1⟩] false)
 (.seq (.region [⟨some p24, .mov (.t p1), none, 0⟩, ⟨some p25, .call (.c (.fn 42 [] [])) [(.t p24)], none, 1⟩, ⟨some p26, .bin .eql (.t p25) (.c (.int .i64 (.ofNat 3))), none, 3⟩, ⟨some p27, .mov (.t p26), none, 7⟩, ⟨some p28, .mov (.t p2), some (p27, true), 15⟩, ⟨some p29, .bin .eql (.t p28) (.c (.int .i64 (.ofNat 3))), some (p27, true), 31⟩, ⟨some p30, .pick (.t p27) (.t p29) (.c (.bool false)), none, 63⟩, ⟨some p31, .mov (.t p30), none, 127⟩, ⟨some p32, .mov (.t p3), some (p31, true), 255⟩, ⟨some p33, .bin .eql (.t p32) (.c (.int .i64 (.ofNat 2))), some (p31, true), 511⟩, ⟨some p34, .pick (.t p31) (.t p33) (.c (.bool false)), none, 1023⟩, ⟨some p35, .mov (.t p34), none, 2047⟩, ⟨some p36, .mov (.t p1), some (p35, true), 4095⟩, ⟨some p37, .call (.c (.fn 43 [] [])) [(.t p36)], some (p35, true), 8191⟩, ⟨some p38, .bin .eql (.t p37) (.c (.int .i64 (.ofNat 2))), some (p35, true), 16383⟩, ⟨some p39, .pick (.t p35) (.t p38) (.c (.bool false)), none, 32767⟩, ⟨some p40, .mov (.t p39), none, 65535⟩, ⟨some p41, .mov (.t p1), some (p40, true), 131071⟩, ⟨some p42, .call (.c (.fn 37 [] [])) [(.t p41), (.c (.int .i64 (.ofNat 0)))], some (p40, true), 262143⟩, ⟨some p43, .pick (.t p40) (.t p42) (.c (.bool false)), none, 524287⟩, ⟨some p44, .mov (.t p43), none, 1048575⟩, ⟨some p45, .mov (.t p4), some (p44, true), 2097151⟩, ⟨some p46, .call (.c (.fn 42 [] [])) [(.t p45)], some (p44, true), 4194303⟩, ⟨some p47, .bin .eql (.t p46) (.c (.int .i64 (.ofNat 9))), some (p44, true), 8388607⟩, ⟨some p48, .pick (.t p44) (.t p47) (.c (.bool false)), none, 16777215⟩, ⟨some p49, .mov (.t p48), none, 33554431⟩, ⟨some p50, .mov (.t p4), some (p49, true), 67108863⟩, ⟨some p51, .call (.c (.fn 37 [] [])) [(.t p50), (.c (.int .i64 (.ofNat 0)))], some (p49, true), 134217727⟩, ⟨some p52, .pick (.t p49) (.t p51) (.c (.bool false)), none, 268435455⟩, ⟨some p53, .mov (.t p52), none, 536870911⟩, ⟨some p54, .loadN 10 (.t p5), some (p53, true), 1073741823⟩, ⟨some p55, .buildSl [(.int .u8 (.ofNat 0)), (.int .i64 (.ofNat 0)), (.int .u8 (.ofNat 0)), (.int .i64 (.ofNat 0)), .nils, (.int .u8 (.ofNat 0)), (.int .i64 (.ofNat 0)), .nils, .nils, .nils] 1 [(0, 10, (.t p54))], some (p53, true), 2147483647⟩, ⟨some p56, .call (.c (.fn 37 [] [])) [(.t p55), (.c (.int .i64 (.ofNat 0)))], some (p53, true), 4294967295⟩, ⟨some p57, .un .not (.t p56), some (p53, true), 8589934591⟩, ⟨some p58, .pick (.t p53) (.t p57) (.c (.bool false)), none, 17179869183⟩, ⟨some p0, .mov (.t p58), none, 34359738367⟩] false)
 .ret))))))) }
theorem ok34 : cFn Try.prog 34 = some ef34 := by kernel_rfl
/-- seesawlaw05.read -/
def ef35 : EFn := { id := 35, N := 3, res := [(p0, some (some 10))], code := (.seq (.region [⟨some p0, .alloc [(.int .u8 (.ofNat 0)), (.int .i64 (.ofNat 0)), (.int .u8 (.ofNat 0)), (.int .i64 (.ofNat 0)), .nils, (.int .u8 (.ofNat 0)), (.int .i64 (.ofNat 0)), .nils, .nils, .nils], none, 0⟩] false)
 (.seq (.region [⟨some p1, .call (.c (.fn 36 [] [])) [(.c (.int .i64 (.ofNat 0)))], none, 0⟩, ⟨some p2, .build [(.int .u8 (.ofNat 0)), (.int .i64 (.ofNat 0)), (.int .u8 (.ofNat 0)), (.int .i64 (.ofNat 0)), .nils, (.int .u8 (.ofNat 0)), (.int .i64 (.ofNat 0)), .nils, .nils, .nils] [(0, 1, (.c (.int .u8 (.ofNat 2)))), (2, 3, (.t p1))], none, 1⟩, ⟨none, .store 10 (.t p0) (.t p2), none, 3⟩] false)
 .ret)) }
theorem ok35 : cFn Try.prog 35 = some ef35 := by kernel_rfl
/-- seesawlaw05.lit -/
def ef36 : EFn := { id := 36, N := 5, res := [(p2, some (some 3))], code := (.seq (.region [⟨some p2, .alloc [(.int .u8 (.ofNat 0)), (.int .i64 (.ofNat 0)), .nils], none, 0⟩] false)
 (.seq (.region [⟨some p3, .mov (.t p0), none, 0⟩, ⟨some p4, .build [(.int .u8 (.ofNat 0)), (.int .i64 (.ofNat 0)), .nils] [(0, 1, (.c (.int .u8 (.ofNat 1)))), (1, 1, (.t p3))], none, 1⟩, ⟨none, .store 3 (.t p2) (.t p4), none, 3⟩] false)
 .ret)) }
theorem ok36 : cFn Try.prog 36 = some ef36 := by kernel_rfl
/-- code.May -/
def ef37 : EFn := { id := 37, N := 42, res := [(p4, some none)], code := (.seq (.region [⟨some p3, .box (.t p1), none, 0⟩, ⟨some p4, .alloc [(.bool false)], none, 0⟩] false)
 (.seq (.seq (.region [⟨some p8, .load1 (.t p3), none, 0⟩, ⟨some p9, .bin .lss (.t p8) (.c (.int .i64 (.ofNat 0))), none, 1⟩, ⟨some p10, .mov (.t p9), none, 3⟩, ⟨some p11, .load1 (.t p3), some (p10, false), 7⟩, ⟨some p12, .bin .geq (.t p11) (.c (.int .i64 (.ofNat 6))), some (p10, false), 15⟩, ⟨some p13, .pick (.t p10) (.c (.bool true)) (.t p12), none, 31⟩, ⟨some p14, .mov (.t p13), none, 63⟩, ⟨some p15, .mov (.t p0), some (p14, false), 127⟩, ⟨some p16, .call (.c (.fn 43 [] [])) [(.t p15)], some (p14, false), 255⟩, ⟨some p17, .bin .gtr (.t p16) (.c (.int .i64 (.ofNat 6))), some (p14, false), 511⟩, ⟨some p18, .pick (.t p14) (.c (.bool true)) (.t p17), none, 1023⟩, ⟨some p19, .mov (.t p18), none, 2047⟩, ⟨some p20, .mov (.t p0), some (p19, false), 4095⟩, ⟨some p21, .call (.c (.fn 42 [] [])) [(.t p20)], some (p19, false), 8191⟩, ⟨some p22, .bin .gtr (.t p21) (.c (.int .i64 (.ofNat 2000))), some (p19, false), 16383⟩, ⟨some p23, .pick (.t p19) (.c (.bool true)) (.t p22), none, 32767⟩] false)
 (.cond (.t p23) (.seq (.region [⟨none, .store 1 (.t p4) (.c (.bool false)), none, 0⟩] false)
 .ret) .skip))
 (.seq (.region [⟨some p25, .mov (.t p0), none, 0⟩, ⟨some p26, .call (.c (.fn 70 [] [])) [(.t p25)], none, 1⟩, ⟨some p24, .mov (.t p26), none, 3⟩, ⟨some p27, .ext 0 (.t p24), none, 7⟩, ⟨some p28, .ext 1 (.t p24), none, 7⟩, ⟨some p5, .mov (.t p27), none, 15⟩, ⟨some p6, .mov (.t p28), none, 63⟩] false)
 (.seq (.seq (.region [⟨some p29, .mov (.t p0), none, 0⟩, ⟨some p30, .call (.c (.fn 72 [] [])) [(.t p29)], none, 1⟩] false)
 (.block 0 (.rangeF (.t p30) [p31] (.region [⟨some p7, .alloc [(.int .u8 (.ofNat 0)), (.int .i64 (.ofNat 0)), (.int .u8 (.ofNat 0)), (.int .i64 (.ofNat 0)), .nils, (.int .u8 (.ofNat 0)), (.int .i64 (.ofNat 0)), .nils, .nils, .nils], none, 0⟩, ⟨none, .store 10 (.t p7) (.t p31), none, 1⟩] false) (.block 1 (.seq (.region [⟨some p32, .loadN 10 (.t p7), none, 0⟩, ⟨some p33, .load1 (.t p3), none, 0⟩, ⟨some p34, .call (.c (.fn 73 [] [])) [(.t p32), (.t p33)], none, 3⟩, ⟨some p35, .un .not (.t p34), none, 7⟩] false)
 (.cond (.t p35) (.seq (.region [⟨none, .store 1 (.t p4) (.c (.bool false)), none, 0⟩] false)
 .ret) .skip))))))
 (.seq (.region [⟨some p36, .mov (.t p5), none, 0⟩, ⟨some p37, .bin .leq (.t p36) (.c (.int .i64 (.ofNat 40))), none, 1⟩, ⟨some p38, .mov (.t p37), none, 3⟩, ⟨some p39, .mov (.t p6), some (p38, true), 7⟩, ⟨some p40, .bin .leq (.t p39) (.c (.int .i64 (.ofNat 300))), some (p38, true), 15⟩, ⟨some p41, .pick (.t p38) (.t p40) (.c (.bool false)), none, 31⟩, ⟨none, .store 1 (.t p4) (.t p41), none, 63⟩] false)
 .ret))))) }
theorem ok37 : cFn Try.prog 37 = some ef37 := by kernel_rfl
/-- seesawlaw05.write -/
def ef38 : EFn := { id := 38, N := 4, res := [(p0, some (some 10))], code := (.seq (.region [⟨some p0, .alloc [(.int .u8 (.ofNat 0)), (.int .i64 (.ofNat 0)), (.int .u8 (.ofNat 0)), (.int .i64 (.ofNat 0)), .nils, (.int .u8 (.ofNat 0)), (.int .i64 (.ofNat 0)), .nils, .nils, .nils], none, 0⟩] false)
 (.seq (.region [⟨some p1, .call (.c (.fn 36 [] [])) [(.c (.int .i64 (.ofNat 0)))], none, 0⟩, ⟨some p2, .call (.c (.fn 36 [] [])) [(.c (.int .i64 (.ofNat 1)))], none, 1⟩, ⟨some p3, .build [(.int .u8 (.ofNat 0)), (.int .i64 (.ofNat 0)), (.int .u8 (.ofNat 0)), (.int .i64 (.ofNat 0)), .nils, (.int .u8 (.ofNat 0)), (.int .i64 (.ofNat 0)), .nils, .nils, .nils] [(0, 1, (.c (.int .u8 (.ofNat 3)))), (2, 3, (.t p1)), (5, 3, (.t p2))], none, 3⟩, ⟨none, .store 10 (.t p0) (.t p3), none, 7⟩] false)
 .ret)) }
theorem ok38 : cFn Try.prog 38 = some ef38 := by kernel_rfl
/-- seesawlaw05.nested -/
def ef39 : EFn := { id := 39, N := 19, res := [(p4, none)], code := (.seq (.region [⟨some p3, .box (.t p1), none, 0⟩, ⟨some p4, .mov (.c .nils), none, 0⟩] false)
 (.seq (.region [⟨some p7, .loadN 10 (.t p3), none, 0⟩, ⟨some p8, .buildSl [(.int .u8 (.ofNat 0)), (.int .i64 (.ofNat 0)), (.int .u8 (.ofNat 0)), (.int .i64 (.ofNat 0)), .nils, (.int .u8 (.ofNat 0)), (.int .i64 (.ofNat 0)), .nils, .nils, .nils] 1 [(0, 10, (.t p7))], none, 1⟩, ⟨some p5, .mov (.t p8), none, 3⟩] false)
 (.seq (.seq (.region [⟨some p6, .mov (.c (.int .i64 (.ofNat 1))), none, 0⟩] false)
 (.block 0 (.loop (.seq (.seq (.region [⟨some p9, .mov (.t p6), none, 0⟩, ⟨some p10, .mov (.t p0), none, 0⟩, ⟨some p11, .bin .lss (.t p9) (.t p10), none, 3⟩] false)
 (.cond (.t p11) .skip (.exit 0)))
 (.seq (.block 1 (.region [⟨some p14, .call (.c (.fn 36 [] [])) [(.c (.int .i64 (.ofNat 1)))], none, 0⟩, ⟨some p15, .mov (.t p5), none, 0⟩, ⟨some p16, .build [(.int .u8 (.ofNat 0)), (.int .i64 (.ofNat 0)), (.int .u8 (.ofNat 0)), (.int .i64 (.ofNat 0)), .nils, (.int .u8 (.ofNat 0)), (.int .i64 (.ofNat 0)), .nils, .nils, .nils] [(0, 1, (.c (.int .u8 (.ofNat 4)))), (2, 3, (.t p14)), (9, 1, (.t p15))], none, 3⟩, ⟨some p17, .buildSl [(.int .u8 (.ofNat 0)), (.int .i64 (.ofNat 0)), (.int .u8 (.ofNat 0)), (.int .i64 (.ofNat 0)), .nils, (.int .u8 (.ofNat 0)), (.int .i64 (.ofNat 0)), .nils, .nils, .nils] 1 [(0, 10, (.t p16))], none, 7⟩, ⟨some p5, .mov (.t p17), none, 15⟩] false))
 (.region [⟨some p12, .mov (.t p6), none, 0⟩, ⟨some p13, .bin .add (.t p12) (.c (.int .i64 (.ofNat 1))), none, 1⟩, ⟨some p6, .mov (.t p13), none, 3⟩] false))))))
 (.seq (.region [⟨some p18, .mov (.t p5), none, 0⟩, ⟨some p4, .mov (.t p18), none, 1⟩] false)
 .ret)))) }
theorem ok39 : cFn Try.prog 39 = some ef39 := by kernel_rfl
/-- seesawlaw05.many -/
def ef40 : EFn := { id := 40, N := 17, res := [(p4, none)], code := (.seq (.region [⟨some p3, .box (.t p1), none, 0⟩, ⟨some p4, .mov (.c .nils), none, 0⟩] false)
 (.seq (.region [⟨some p5, .mov (.c .nils), none, 0⟩] false)
 (.seq (.seq (.region [⟨some p6, .mov (.c (.int .i64 (.ofNat 0))), none, 0⟩] false)
 (.block 0 (.loop (.seq (.seq (.region [⟨some p7, .mov (.t p6), none, 0⟩, ⟨some p8, .mov (.t p0), none, 0⟩, ⟨some p9, .bin .lss (.t p7) (.t p8), none, 3⟩] false)
 (.cond (.t p9) .skip (.exit 0)))
 (.seq (.block 1 (.region [⟨some p12, .mov (.t p5), none, 0⟩, ⟨some p13, .loadN 10 (.t p3), none, 0⟩, ⟨some p14, .buildSl [(.int .u8 (.ofNat 0)), (.int .i64 (.ofNat 0)), (.int .u8 (.ofNat 0)), (.int .i64 (.ofNat 0)), .nils, (.int .u8 (.ofNat 0)), (.int .i64 (.ofNat 0)), .nils, .nils, .nils] 1 [(0, 10, (.t p13))], none, 2⟩, ⟨some p15, .app 10 (.t p12) (.t p14), none, 7⟩, ⟨some p5, .mov (.t p15), none, 15⟩] false))
 (.region [⟨some p10, .mov (.t p6), none, 0⟩, ⟨some p11, .bin .add (.t p10) (.c (.int .i64 (.ofNat 1))), none, 1⟩, ⟨some p6, .mov (.t p11), none, 3⟩] false))))))
 (.seq (.region [⟨some p16, .mov (.t p5), none, 0⟩, ⟨some p4, .mov (.t p16), none, 1⟩] false)
 .ret)))) }
theorem ok40 : cFn Try.prog 40 = some ef40 := by kernel_rfl
/-- seesawlaw05.CodeNames$1 -/
def ef41 : EFn := { id := 41, N := 17, res := [(p2, none)], code := (.seq (.region [⟨some p2, .mov (.c .nils), none, 0⟩] false)
 (.seq (.region [⟨some p5, .mov (.t p0), none, 0⟩, ⟨some p6, .call (.c (.fn 38 [] [])) [], none, 0⟩, ⟨some p7, .call (.c (.fn 40 [] [])) [(.t p5), (.t p6)], none, 3⟩, ⟨some p3, .mov (.t p7), none, 7⟩] false)
 (.seq (.seq (.region [⟨some p4, .mov (.c (.int .i64 (.ofNat 0))), none, 0⟩] false)
 (.block 0 (.loop (.seq (.seq (.region [⟨some p8, .mov (.t p4), none, 0⟩, ⟨some p9, .bin .lss (.t p8) (.c (.int .i64 (.ofNat 3))), none, 1⟩] false)
 (.cond (.t p9) .skip (.exit 0)))
 (.seq (.block 1 (.region [⟨some p12, .call (.c (.fn 36 [] [])) [(.c (.int .i64 (.ofNat 1)))], none, 0⟩, ⟨some p13, .mov (.t p3), none, 0⟩, ⟨some p14, .build [(.int .u8 (.ofNat 0)), (.int .i64 (.ofNat 0)), (.int .u8 (.ofNat 0)), (.int .i64 (.ofNat 0)), .nils, (.int .u8 (.ofNat 0)), (.int .i64 (.ofNat 0)), .nils, .nils, .nils] [(0, 1, (.c (.int .u8 (.ofNat 5)))), (2, 3, (.t p12)), (8, 1, (.t p13))], none, 3⟩, ⟨some p15, .buildSl [(.int .u8 (.ofNat 0)), (.int .i64 (.ofNat 0)), (.int .u8 (.ofNat 0)), (.int .i64 (.ofNat 0)), .nils, (.int .u8 (.ofNat 0)), (.int .i64 (.ofNat 0)), .nils, .nils, .nils] 1 [(0, 10, (.t p14))], none, 7⟩, ⟨some p3, .mov (.t p15), none, 15⟩] false))
 (.region [⟨some p10, .mov (.t p4), none, 0⟩, ⟨some p11, .bin .add (.t p10) (.c (.int .i64 (.ofNat 1))), none, 1⟩, ⟨some p4, .mov (.t p11), none, 3⟩] false))))))
 (.seq (.region [⟨some p16, .mov (.t p3), none, 0⟩, ⟨some p2, .mov (.t p16), none, 1⟩] false)
 .ret)))) }
theorem ok41 : cFn Try.prog 41 = some ef41 := by kernel_rfl
/-- code.Cost -/
def ef42 : EFn := { id := 42, N := 46, res := [(p2, none)], code := (.seq (.region [⟨some p2, .mov (.c (.int .i64 (.ofNat 0))), none, 0⟩] false)
 (.seq (.region [⟨some p3, .mov (.c (.int .i64 (.ofNat 0))), none, 0⟩] false)
 (.seq (.seq (.region [⟨some p7, .mov (.t p0), none, 0⟩, ⟨some p8, .len false (.t p7), none, 1⟩, ⟨some p9, .mov (.c (.int .i64 (.ofNat 0))), none, 0⟩] false)
 (.block 0 (.loop (.seq (.region [⟨some p10, .bin .lss (.t p9) (.t p8), none, 0⟩] false)
 (.seq (.cond (.t p10) .skip (.exit 0))
 (.seq (.block 1 (.seq (.region [⟨some p11, .iaddrS 10 (.t p7) (.t p9), none, 0⟩, ⟨some p12, .loadN 10 (.t p11), none, 1⟩, ⟨some p5, .alloc [(.int .u8 (.ofNat 0)), (.int .i64 (.ofNat 0)), (.int .u8 (.ofNat 0)), (.int .i64 (.ofNat 0)), .nils, (.int .u8 (.ofNat 0)), (.int .i64 (.ofNat 0)), .nils, .nils, .nils], none, 0⟩, ⟨none, .store 10 (.t p5) (.t p12), none, 7⟩] false)
 (.seq (.region [⟨some p6, .mov (.c (.int .i64 (.ofNat 0))), none, 0⟩] false)
 (.seq (.seq (.region [⟨some p13, .faddr 0 (.t p5), none, 0⟩, ⟨some p14, .load1 (.t p13), none, 1⟩] false)
 (.block 2 (.seq (.region [⟨some p16, .bin .eql (.t p14) (.c (.int .u8 (.ofNat 4))), none, 0⟩, ⟨some p15, .mov (.t p16), none, 1⟩] false)
 (.cond (.t p15) (.region [⟨some p17, .faddr 8 (.t p5), none, 0⟩, ⟨some p18, .load1 (.t p17), none, 1⟩, ⟨some p19, .call (.c (.fn 42 [] [])) [(.t p18)], none, 3⟩, ⟨some p20, .faddr 9 (.t p5), none, 0⟩, ⟨some p21, .load1 (.t p20), none, 8⟩, ⟨some p22, .call (.c (.fn 42 [] [])) [(.t p21)], none, 31⟩, ⟨some p23, .max (.t p19) (.t p22), none, 63⟩, ⟨some p6, .mov (.t p23), none, 127⟩] true) (.seq (.region [⟨some p25, .bin .eql (.t p14) (.c (.int .u8 (.ofNat 5))), none, 0⟩, ⟨some p24, .mov (.t p25), none, 1⟩] false)
 (.cond (.t p24) (.region [⟨some p26, .faddr 8 (.t p5), none, 0⟩, ⟨some p27, .load1 (.t p26), none, 1⟩, ⟨some p28, .call (.c (.fn 42 [] [])) [(.t p27)], none, 3⟩, ⟨some p29, .bin .mul (.c (.int .i64 (.ofNat 8))) (.t p28), none, 7⟩, ⟨some p6, .mov (.t p29), none, 15⟩] false) (.seq (.region [⟨some p31, .bin .eql (.t p14) (.c (.int .u8 (.ofNat 7))), none, 0⟩, ⟨some p30, .mov (.t p31), none, 1⟩] false)
 (.cond (.t p30) (.region [⟨some p32, .faddr 8 (.t p5), none, 0⟩, ⟨some p33, .load1 (.t p32), none, 1⟩, ⟨some p34, .call (.c (.fn 42 [] [])) [(.t p33)], none, 3⟩, ⟨some p35, .faddr 9 (.t p5), none, 0⟩, ⟨some p36, .load1 (.t p35), none, 8⟩, ⟨some p37, .call (.c (.fn 42 [] [])) [(.t p36)], none, 31⟩, ⟨some p38, .bin .add (.t p34) (.t p37), none, 63⟩, ⟨some p6, .mov (.t p38), none, 127⟩] true) .skip))))))))
 (.region [⟨some p39, .mov (.t p3), none, 0⟩, ⟨some p40, .bin .add (.t p39) (.c (.int .i64 (.ofNat 1))), none, 1⟩, ⟨some p41, .mov (.t p6), none, 0⟩, ⟨some p42, .bin .add (.t p40) (.t p41), none, 7⟩, ⟨some p43, .min (.t p42) (.c (.int .i64 (.ofNat 2001))), none, 15⟩, ⟨some p3, .mov (.t p43), none, 31⟩] false)))))
 (.region [⟨some p44, .bin .add (.t p9) (.c (.int .i64 (.ofNat 1))), none, 0⟩, ⟨some p9, .mov (.t p44), none, 1⟩] false)))))))
 (.seq (.region [⟨some p45, .mov (.t p3), none, 0⟩, ⟨some p2, .mov (.t p45), none, 1⟩] false)
 .ret)))) }
theorem ok42 : cFn Try.prog 42 = some ef42 := by kernel_rfl
/-- code.Depth -/
def ef43 : EFn := { id := 43, N := 33, res := [(p2, none)], code := (.seq (.region [⟨some p2, .mov (.c (.int .i64 (.ofNat 0))), none, 0⟩] false)
 (.seq (.region [⟨some p3, .mov (.c (.int .i64 (.ofNat 0))), none, 0⟩] false)
 (.seq (.seq (.region [⟨some p6, .mov (.t p0), none, 0⟩, ⟨some p7, .len false (.t p6), none, 1⟩, ⟨some p8, .mov (.c (.int .i64 (.ofNat 0))), none, 0⟩] false)
 (.block 0 (.loop (.seq (.region [⟨some p9, .bin .lss (.t p8) (.t p7), none, 0⟩] false)
 (.seq (.cond (.t p9) .skip (.exit 0))
 (.seq (.block 1 (.seq (.region [⟨some p10, .iaddrS 10 (.t p6) (.t p8), none, 0⟩, ⟨some p11, .loadN 10 (.t p10), none, 1⟩, ⟨some p5, .alloc [(.int .u8 (.ofNat 0)), (.int .i64 (.ofNat 0)), (.int .u8 (.ofNat 0)), (.int .i64 (.ofNat 0)), .nils, (.int .u8 (.ofNat 0)), (.int .i64 (.ofNat 0)), .nils, .nils, .nils], none, 0⟩, ⟨none, .store 10 (.t p5) (.t p11), none, 7⟩] false)
 (.seq (.seq (.region [⟨some p12, .faddr 8 (.t p5), none, 0⟩, ⟨some p13, .load1 (.t p12), none, 1⟩, ⟨some p14, .len false (.t p13), none, 3⟩, ⟨some p15, .bin .gtr (.t p14) (.c (.int .i64 (.ofNat 0))), none, 7⟩] false)
 (.cond (.t p15) (.region [⟨some p16, .mov (.t p3), none, 0⟩, ⟨some p17, .faddr 8 (.t p5), none, 0⟩, ⟨some p18, .load1 (.t p17), none, 2⟩, ⟨some p19, .call (.c (.fn 43 [] [])) [(.t p18)], none, 6⟩, ⟨some p20, .max (.t p16) (.t p19), none, 15⟩, ⟨some p3, .mov (.t p20), none, 31⟩] false) .skip))
 (.seq (.region [⟨some p21, .faddr 9 (.t p5), none, 0⟩, ⟨some p22, .load1 (.t p21), none, 1⟩, ⟨some p23, .len false (.t p22), none, 3⟩, ⟨some p24, .bin .gtr (.t p23) (.c (.int .i64 (.ofNat 0))), none, 7⟩] false)
 (.cond (.t p24) (.region [⟨some p25, .mov (.t p3), none, 0⟩, ⟨some p26, .faddr 9 (.t p5), none, 0⟩, ⟨some p27, .load1 (.t p26), none, 2⟩, ⟨some p28, .call (.c (.fn 43 [] [])) [(.t p27)], none, 6⟩, ⟨some p29, .max (.t p25) (.t p28), none, 15⟩, ⟨some p3, .mov (.t p29), none, 31⟩] false) .skip)))))
 (.region [⟨some p30, .bin .add (.t p8) (.c (.int .i64 (.ofNat 1))), none, 0⟩, ⟨some p8, .mov (.t p30), none, 1⟩] false)))))))
 (.seq (.region [⟨some p31, .mov (.t p3), none, 0⟩, ⟨some p32, .bin .add (.t p31) (.c (.int .i64 (.ofNat 1))), none, 1⟩, ⟨some p2, .mov (.t p32), none, 3⟩] false)
 .ret)))) }
theorem ok43 : cFn Try.prog 43 = some ef43 := by kernel_rfl
/-- code.Same -/
def ef44 : EFn := { id := 44, N := 8, res := [(p4, none)], code := (.seq (.region [⟨some p4, .mov (.c (.bool false)), none, 0⟩] false)
 (.seq (.region [⟨some p5, .mov (.t p0), none, 0⟩, ⟨some p6, .mov (.t p1), none, 0⟩, ⟨some p7, .call (.c (.fn 74 [] [])) [(.t p5), (.t p6), (.c (.fn 75 [] []))], none, 3⟩, ⟨some p4, .mov (.t p7), none, 7⟩] false)
 .ret)) }
theorem ok44 : cFn Try.prog 44 = some ef44 := by kernel_rfl
/-- code.Copy -/
def ef45 : EFn := { id := 45, N := 34, res := [(p2, none)], code := (.seq (.region [⟨some p2, .mov (.c .nils), none, 0⟩] false)
 (.seq (.region [⟨some p3, .mov (.c .nils), none, 0⟩] false)
 (.seq (.seq (.region [⟨some p6, .mov (.t p0), none, 0⟩, ⟨some p7, .len false (.t p6), none, 1⟩, ⟨some p8, .mov (.c (.int .i64 (.ofNat 0))), none, 0⟩] false)
 (.block 0 (.loop (.seq (.region [⟨some p9, .bin .lss (.t p8) (.t p7), none, 0⟩] false)
 (.seq (.cond (.t p9) .skip (.exit 0))
 (.seq (.block 1 (.seq (.region [⟨some p10, .iaddrS 10 (.t p6) (.t p8), none, 0⟩, ⟨some p11, .loadN 10 (.t p10), none, 1⟩, ⟨some p5, .alloc [(.int .u8 (.ofNat 0)), (.int .i64 (.ofNat 0)), (.int .u8 (.ofNat 0)), (.int .i64 (.ofNat 0)), .nils, (.int .u8 (.ofNat 0)), (.int .i64 (.ofNat 0)), .nils, .nils, .nils], none, 0⟩, ⟨none, .store 10 (.t p5) (.t p11), none, 7⟩] false)
 (.seq (.region [⟨some p12, .faddr 2 (.t p5), none, 0⟩, ⟨some p13, .loadN 3 (.t p12), none, 1⟩, ⟨some p14, .call (.c (.fn 76 [] [])) [(.t p13)], none, 3⟩, ⟨some p15, .faddr 5 (.t p5), none, 0⟩, ⟨some p16, .loadN 3 (.t p15), none, 8⟩, ⟨some p17, .call (.c (.fn 76 [] [])) [(.t p16)], none, 31⟩, ⟨some p18, .faddr 8 (.t p5), none, 0⟩, ⟨some p19, .load1 (.t p18), none, 64⟩, ⟨some p20, .call (.c (.fn 45 [] [])) [(.t p19)], none, 255⟩, ⟨some p21, .faddr 9 (.t p5), none, 0⟩, ⟨some p22, .load1 (.t p21), none, 512⟩, ⟨some p23, .call (.c (.fn 45 [] [])) [(.t p22)], none, 2047⟩, ⟨some p24, .faddr 2 (.t p5), none, 1759⟩, ⟨none, .store 3 (.t p24) (.t p14), none, 8191⟩, ⟨some p25, .faddr 5 (.t p5), none, 16383⟩, ⟨none, .store 3 (.t p25) (.t p17), none, 32767⟩, ⟨some p26, .faddr 8 (.t p5), none, 65535⟩, ⟨none, .store 1 (.t p26) (.t p20), none, 131071⟩, ⟨some p27, .faddr 9 (.t p5), none, 262143⟩, ⟨none, .store 1 (.t p27) (.t p23), none, 524287⟩] true)
 (.region [⟨some p28, .mov (.t p3), none, 0⟩, ⟨some p29, .loadN 10 (.t p5), none, 0⟩, ⟨some p30, .buildSl [(.int .u8 (.ofNat 0)), (.int .i64 (.ofNat 0)), (.int .u8 (.ofNat 0)), (.int .i64 (.ofNat 0)), .nils, (.int .u8 (.ofNat 0)), (.int .i64 (.ofNat 0)), .nils, .nils, .nils] 1 [(0, 10, (.t p29))], none, 2⟩, ⟨some p31, .app 10 (.t p28) (.t p30), none, 7⟩, ⟨some p3, .mov (.t p31), none, 15⟩] false))))
 (.region [⟨some p32, .bin .add (.t p8) (.c (.int .i64 (.ofNat 1))), none, 0⟩, ⟨some p8, .mov (.t p32), none, 1⟩] false)))))))
 (.seq (.region [⟨some p33, .mov (.t p3), none, 0⟩, ⟨some p2, .mov (.t p33), none, 1⟩] false)
 .ret)))) }
theorem ok45 : cFn Try.prog 45 = some ef45 := by kernel_rfl
/-- code.Count -/
def ef70 : EFn := { id := 70, N := 21, res := [(p2, some none), (p3, some none)], code := (.seq (.region [⟨some p2, .alloc [(.int .i64 (.ofNat 0))], none, 0⟩, ⟨some p3, .alloc [(.int .i64 (.ofNat 0))], none, 0⟩] false)
 (.seq (.seq (.region [⟨some p5, .mov (.t p0), none, 0⟩, ⟨some p6, .call (.c (.fn 72 [] [])) [(.t p5)], none, 1⟩] false)
 (.block 0 (.rangeF (.t p6) [p7] (.region [⟨some p4, .alloc [(.int .u8 (.ofNat 0)), (.int .i64 (.ofNat 0)), (.int .u8 (.ofNat 0)), (.int .i64 (.ofNat 0)), .nils, (.int .u8 (.ofNat 0)), (.int .i64 (.ofNat 0)), .nils, .nils, .nils], none, 0⟩, ⟨none, .store 10 (.t p4) (.t p7), none, 1⟩] false) (.block 1 (.seq (.region [⟨some p8, .load1 (.t p2), none, 0⟩, ⟨some p9, .bin .add (.t p8) (.c (.int .i64 (.ofNat 1))), none, 1⟩, ⟨none, .store 1 (.t p2) (.t p9), none, 3⟩] false)
 (.region [⟨some p10, .load1 (.t p3), none, 0⟩, ⟨some p11, .faddr 2 (.t p4), none, 0⟩, ⟨some p12, .loadN 3 (.t p11), none, 2⟩, ⟨some p13, .call (.c (.fn 107 [] [])) [(.t p12)], none, 6⟩, ⟨some p14, .faddr 5 (.t p4), none, 0⟩, ⟨some p15, .loadN 3 (.t p14), none, 16⟩, ⟨some p16, .call (.c (.fn 107 [] [])) [(.t p15)], none, 62⟩, ⟨some p17, .bin .add (.t p13) (.t p16), none, 126⟩, ⟨some p18, .bin .add (.t p10) (.t p17), none, 255⟩, ⟨none, .store 1 (.t p3) (.t p18), none, 511⟩] true))))))
 (.seq (.region [⟨some p19, .load1 (.t p2), none, 0⟩, ⟨some p20, .load1 (.t p3), none, 0⟩, ⟨none, .store 1 (.t p2) (.t p19), none, 1⟩, ⟨none, .store 1 (.t p3) (.t p20), none, 7⟩] true)
 .ret))) }
theorem ok70 : cFn Try.prog 70 = some ef70 := by kernel_rfl
/-- seesawlaw05.back -/
def ef71 : EFn := { id := 71, N := 3, res := [(p0, some (some 10))], code := (.seq (.region [⟨some p0, .alloc [(.int .u8 (.ofNat 0)), (.int .i64 (.ofNat 0)), (.int .u8 (.ofNat 0)), (.int .i64 (.ofNat 0)), .nils, (.int .u8 (.ofNat 0)), (.int .i64 (.ofNat 0)), .nils, .nils, .nils], none, 0⟩] false)
 (.seq (.region [⟨some p1, .call (.c (.fn 36 [] [])) [(.c (.int .i64 (.ofNat 0)))], none, 0⟩, ⟨some p2, .build [(.int .u8 (.ofNat 0)), (.int .i64 (.ofNat 0)), (.int .u8 (.ofNat 0)), (.int .i64 (.ofNat 0)), .nils, (.int .u8 (.ofNat 0)), (.int .i64 (.ofNat 0)), .nils, .nils, .nils] [(0, 1, (.c (.int .u8 (.ofNat 8)))), (2, 3, (.t p1))], none, 1⟩, ⟨none, .store 10 (.t p0) (.t p2), none, 3⟩] false)
 .ret)) }
theorem ok71 : cFn Try.prog 71 = some ef71 := by kernel_rfl
/-- code.all -/
def ef72 : EFn := { id := 72, N := 4, res := [(p2, none)], code := (.seq (.region [⟨some p1, .box (.t p0), none, 0⟩, ⟨some p2, .mov (.c .nilf), none, 0⟩] false)
 (.seq (.region [⟨some p3, .mkfn 108 [] [(.t p1)], none, 0⟩, ⟨some p2, .mov (.t p3), none, 1⟩] false)
 .ret)) }
theorem ok72 : cFn Try.prog 72 = some ef72 := by kernel_rfl
/-- code.shaped -/
def ef73 : EFn := { id := 73, N := 68, res := [(p4, none)], code := (.seq (.region [⟨some p2, .box (.t p0), none, 0⟩, ⟨some p3, .box (.t p1), none, 0⟩, ⟨some p4, .mov (.c (.bool false)), none, 0⟩] false)
 (.seq (.region [⟨some p7, .faddr 0 (.t p2), none, 0⟩, ⟨some p8, .load1 (.t p7), none, 1⟩, ⟨some p9, .call (.c (.fn 110 [] [])) [(.t p8)], none, 3⟩, ⟨some p5, .alloc [(.bool false), (.bool false), (.bool false), (.bool false), (.bool false), (.bool false)], none, 0⟩, ⟨none, .store 6 (.t p5) (.t p9), none, 15⟩] false)
 (.seq (.region [⟨some p10, .mkfn 111 [] [(.t p3)], none, 0⟩, ⟨some p6, .mov (.t p10), none, 1⟩] false)
 (.seq (.block 0 (.seq (.region [⟨some p12, .loadN 6 (.t p5), none, 0⟩, ⟨some p13, .build [(.bool false), (.bool false), (.bool false), (.bool false), (.bool false), (.bool false)] [], none, 0⟩, ⟨some p14, .eq false (.bools [0, 1, 2, 3, 4, 5]) (.t p12) (.t p13), none, 3⟩, ⟨some p11, .mov (.t p14), none, 7⟩] false)
 (.cond (.t p11) (.seq (.region [⟨some p4, .mov (.c (.bool false)), none, 0⟩] false)
 .ret) (.seq (.region [⟨some p16, .faddr 1 (.t p2), none, 0⟩, ⟨some p17, .load1 (.t p16), none, 1⟩, ⟨some p18, .bin .lss (.t p17) (.c (.int .i64 (.ofNat 0))), none, 3⟩, ⟨some p19, .mov (.t p18), none, 7⟩, ⟨some p20, .faddr 1 (.t p2), some (p19, false), 15⟩, ⟨some p21, .load1 (.t p20), some (p19, false), 31⟩, ⟨some p22, .bin .geq (.t p21) (.c (.int .i64 (.ofNat 8))), some (p19, false), 63⟩, ⟨some p23, .pick (.t p19) (.c (.bool true)) (.t p22), none, 127⟩, ⟨some p24, .mov (.t p23), none, 255⟩, ⟨some p25, .faddr 1 (.t p5), some (p24, false), 511⟩, ⟨some p26, .load1 (.t p25), some (p24, false), 1023⟩, ⟨some p27, .un .not (.t p26), some (p24, false), 2047⟩, ⟨some p28, .mov (.t p27), some (p24, false), 4095⟩, ⟨some p29, .faddr 1 (.t p2), some (p28, true), 8191⟩, ⟨some p30, .load1 (.t p29), some (p28, true), 16383⟩, ⟨some p31, .bin .neq (.t p30) (.c (.int .i64 (.ofNat 0))), some (p28, true), 32767⟩, ⟨some p32, .pick (.t p28) (.t p31) (.c (.bool false)), some (p24, false), 65535⟩, ⟨some p33, .pick (.t p24) (.c (.bool true)) (.t p32), none, 131071⟩, ⟨some p15, .mov (.t p33), none, 262143⟩] false)
 (.cond (.t p15) (.seq (.region [⟨some p4, .mov (.c (.bool false)), none, 0⟩] false)
 .ret) .skip)))))
 (.seq (.region [⟨some p34, .mov (.t p6), none, 0⟩, ⟨some p35, .faddr 2 (.t p5), none, 0⟩, ⟨some p36, .load1 (.t p35), none, 2⟩, ⟨some p37, .faddr 2 (.t p2), none, 0⟩, ⟨some p38, .loadN 3 (.t p37), none, 8⟩, ⟨some p39, .call (.t p34) [(.t p36), (.t p38)], none, 31⟩, ⟨some p40, .mov (.t p39), none, 63⟩, ⟨some p41, .mov (.t p6), some (p40, true), 127⟩, ⟨some p42, .faddr 3 (.t p5), some (p40, true), 127⟩, ⟨some p43, .load1 (.t p42), some (p40, true), 383⟩, ⟨some p44, .faddr 5 (.t p2), some (p40, true), 127⟩, ⟨some p45, .loadN 3 (.t p44), some (p40, true), 1151⟩, ⟨some p46, .call (.t p41) [(.t p43), (.t p45)], some (p40, true), 4095⟩, ⟨some p47, .pick (.t p40) (.t p46) (.c (.bool false)), none, 8191⟩, ⟨some p48, .mov (.t p47), none, 16383⟩, ⟨some p49, .faddr 4 (.t p5), some (p48, true), 32767⟩, ⟨some p50, .load1 (.t p49), some (p48, true), 65535⟩, ⟨some p51, .mov (.t p50), some (p48, true), 131071⟩, ⟨some p52, .faddr 8 (.t p2), some (p51, false), 262143⟩, ⟨some p53, .load1 (.t p52), some (p51, false), 524287⟩, ⟨some p54, .len false (.t p53), some (p51, false), 1048575⟩, ⟨some p55, .bin .eql (.t p54) (.c (.int .i64 (.ofNat 0))), some (p51, false), 2097151⟩, ⟨some p56, .pick (.t p51) (.c (.bool true)) (.t p55), some (p48, true), 4194303⟩, ⟨some p57, .pick (.t p48) (.t p56) (.c (.bool false)), none, 8388607⟩, ⟨some p58, .mov (.t p57), none, 16777215⟩, ⟨some p59, .faddr 5 (.t p5), some (p58, true), 33554431⟩, ⟨some p60, .load1 (.t p59), some (p58, true), 67108863⟩, ⟨some p61, .mov (.t p60), some (p58, true), 134217727⟩, ⟨some p62, .faddr 9 (.t p2), some (p61, false), 268435455⟩, ⟨some p63, .load1 (.t p62), some (p61, false), 536870911⟩, ⟨some p64, .len false (.t p63), some (p61, false), 1073741823⟩, ⟨some p65, .bin .eql (.t p64) (.c (.int .i64 (.ofNat 0))), some (p61, false), 2147483647⟩, ⟨some p66, .pick (.t p61) (.c (.bool true)) (.t p65), some (p58, true), 4294967295⟩, ⟨some p67, .pick (.t p58) (.t p66) (.c (.bool false)), none, 8589934591⟩, ⟨some p4, .mov (.t p67), none, 17179869183⟩] false)
 .ret))))) }
theorem ok73 : cFn Try.prog 73 = some ef73 := by kernel_rfl
/-- slices.EqualFunc[[]api.Stmt,[]api.Stmt,api.Stmt,api.Stmt] -/
def ef74 : EFn := { id := 74, N := 32, res := [(p6, none)], code := (.seq (.region [⟨some p6, .mov (.c (.bool false)), none, 0⟩] false)
 (.seq (.seq (.region [⟨some p10, .mov (.t p0), none, 0⟩, ⟨some p11, .len false (.t p10), none, 1⟩, ⟨some p12, .mov (.t p1), none, 0⟩, ⟨some p13, .len false (.t p12), none, 4⟩, ⟨some p14, .bin .neq (.t p11) (.t p13), none, 15⟩] false)
 (.cond (.t p14) (.seq (.region [⟨some p6, .mov (.c (.bool false)), none, 0⟩] false)
 .ret) .skip))
 (.seq (.seq (.region [⟨some p15, .mov (.t p0), none, 0⟩, ⟨some p16, .len false (.t p15), none, 1⟩, ⟨some p17, .mov (.c (.int .i64 (.ofNat 0))), none, 0⟩] false)
 (.block 0 (.loop (.seq (.region [⟨some p18, .bin .lss (.t p17) (.t p16), none, 0⟩] false)
 (.seq (.cond (.t p18) .skip (.exit 0))
 (.seq (.block 1 (.seq (.region [⟨some p19, .mov (.t p17), none, 0⟩, ⟨some p20, .iaddrS 10 (.t p15) (.t p17), none, 0⟩, ⟨some p21, .loadN 10 (.t p20), none, 2⟩, ⟨some p8, .alloc [(.int .u8 (.ofNat 0)), (.int .i64 (.ofNat 0)), (.int .u8 (.ofNat 0)), (.int .i64 (.ofNat 0)), .nils, (.int .u8 (.ofNat 0)), (.int .i64 (.ofNat 0)), .nils, .nils, .nils], none, 0⟩, ⟨some p7, .mov (.t p19), none, 15⟩, ⟨none, .store 10 (.t p8) (.t p21), none, 31⟩] false)
 (.seq (.region [⟨some p22, .mov (.t p1), none, 0⟩, ⟨some p23, .mov (.t p7), none, 0⟩, ⟨some p24, .iaddrS 10 (.t p22) (.t p23), none, 3⟩, ⟨some p25, .loadN 10 (.t p24), none, 7⟩, ⟨some p9, .alloc [(.int .u8 (.ofNat 0)), (.int .i64 (.ofNat 0)), (.int .u8 (.ofNat 0)), (.int .i64 (.ofNat 0)), .nils, (.int .u8 (.ofNat 0)), (.int .i64 (.ofNat 0)), .nils, .nils, .nils], none, 0⟩, ⟨none, .store 10 (.t p9) (.t p25), none, 31⟩] false)
 (.seq (.region [⟨some p26, .mov (.t p2), none, 0⟩, ⟨some p27, .loadN 10 (.t p8), none, 0⟩, ⟨some p28, .loadN 10 (.t p9), none, 0⟩, ⟨some p29, .call (.t p26) [(.t p27), (.t p28)], none, 7⟩, ⟨some p30, .un .not (.t p29), none, 15⟩] false)
 (.cond (.t p30) (.seq (.region [⟨some p6, .mov (.c (.bool false)), none, 0⟩] false)
 .ret) .skip)))))
 (.region [⟨some p31, .bin .add (.t p17) (.c (.int .i64 (.ofNat 1))), none, 0⟩, ⟨some p17, .mov (.t p31), none, 1⟩] false)))))))
 (.seq (.region [⟨some p6, .mov (.c (.bool true)), none, 0⟩] false)
 .ret)))) }
theorem ok74 : cFn Try.prog 74 = some ef74 := by kernel_rfl
/-- code.same -/
def ef75 : EFn := { id := 75, N := 45, res := [(p4, none)], code := (.seq (.region [⟨some p2, .box (.t p0), none, 0⟩, ⟨some p3, .box (.t p1), none, 0⟩, ⟨some p4, .mov (.c (.bool false)), none, 0⟩] false)
 (.seq (.region [⟨some p5, .faddr 0 (.t p2), none, 0⟩, ⟨some p6, .load1 (.t p5), none, 1⟩, ⟨some p7, .faddr 0 (.t p3), none, 0⟩, ⟨some p8, .load1 (.t p7), none, 4⟩, ⟨some p9, .bin .eql (.t p6) (.t p8), none, 15⟩, ⟨some p10, .mov (.t p9), none, 31⟩, ⟨some p11, .faddr 1 (.t p2), some (p10, true), 63⟩, ⟨some p12, .load1 (.t p11), some (p10, true), 127⟩, ⟨some p13, .faddr 1 (.t p3), some (p10, true), 63⟩, ⟨some p14, .load1 (.t p13), some (p10, true), 319⟩, ⟨some p15, .bin .eql (.t p12) (.t p14), some (p10, true), 1023⟩, ⟨some p16, .pick (.t p10) (.t p15) (.c (.bool false)), none, 2047⟩, ⟨some p17, .mov (.t p16), none, 4095⟩, ⟨some p18, .faddr 2 (.t p2), some (p17, true), 8191⟩, ⟨some p19, .loadN 3 (.t p18), some (p17, true), 16383⟩, ⟨some p20, .faddr 2 (.t p3), some (p17, true), 8191⟩, ⟨some p21, .loadN 3 (.t p20), some (p17, true), 40959⟩, ⟨some p22, .call (.c (.fn 114 [] [])) [(.t p19), (.t p21)], some (p17, true), 131071⟩, ⟨some p23, .pick (.t p17) (.t p22) (.c (.bool false)), none, 262143⟩, ⟨some p24, .mov (.t p23), none, 524287⟩, ⟨some p25, .faddr 5 (.t p2), some (p24, true), 1048575⟩, ⟨some p26, .loadN 3 (.t p25), some (p24, true), 2097151⟩, ⟨some p27, .faddr 5 (.t p3), some (p24, true), 1048575⟩, ⟨some p28, .loadN 3 (.t p27), some (p24, true), 5242879⟩, ⟨some p29, .call (.c (.fn 114 [] [])) [(.t p26), (.t p28)], some (p24, true), 16777215⟩, ⟨some p30, .pick (.t p24) (.t p29) (.c (.bool false)), none, 33554431⟩, ⟨some p31, .mov (.t p30), none, 67108863⟩, ⟨some p32, .faddr 8 (.t p2), some (p31, true), 134217727⟩, ⟨some p33, .load1 (.t p32), some (p31, true), 268435455⟩, ⟨some p34, .faddr 8 (.t p3), some (p31, true), 134217727⟩, ⟨some p35, .load1 (.t p34), some (p31, true), 671088639⟩, ⟨some p36, .call (.c (.fn 44 [] [])) [(.t p33), (.t p35)], some (p31, true), 2147483647⟩, ⟨some p37, .pick (.t p31) (.t p36) (.c (.bool false)), none, 4294967295⟩, ⟨some p38, .mov (.t p37), none, 8589934591⟩, ⟨some p39, .faddr 9 (.t p2), some (p38, true), 17179869183⟩, ⟨some p40, .load1 (.t p39), some (p38, true), 34359738367⟩, ⟨some p41, .faddr 9 (.t p3), some (p38, true), 17179869183⟩, ⟨some p42, .load1 (.t p41), some (p38, true), 85899345919⟩, ⟨some p43, .call (.c (.fn 44 [] [])) [(.t p40), (.t p42)], some (p38, true), 274877906943⟩, ⟨some p44, .pick (.t p38) (.t p43) (.c (.bool false)), none, 549755813887⟩, ⟨some p4, .mov (.t p44), none, 1099511627775⟩] false)
 .ret)) }
theorem ok75 : cFn Try.prog 75 = some ef75 := by kernel_rfl
/-- expr.Copy -/
def ef76 : EFn := { id := 76, N := 25, res := [(p2, some (some 3))], code := (.seq (.region [⟨some p1, .box (.t p0), none, 0⟩, ⟨some p2, .alloc [(.int .u8 (.ofNat 0)), (.int .i64 (.ofNat 0)), .nils], none, 0⟩] false)
 (.seq (.region [⟨some p5, .faddr 2 (.t p1), none, 0⟩, ⟨some p6, .load1 (.t p5), none, 1⟩, ⟨some p7, .call (.c (.fn 115 [] [])) [(.t p6)], none, 3⟩, ⟨some p8, .faddr 2 (.t p1), none, 7⟩, ⟨none, .store 1 (.t p8) (.t p7), none, 15⟩] false)
 (.seq (.seq (.region [⟨some p9, .faddr 2 (.t p1), none, 0⟩, ⟨some p10, .load1 (.t p9), none, 1⟩, ⟨some p11, .len false (.t p10), none, 3⟩, ⟨some p12, .mov (.c (.int .i64 (.ofNat 0))), none, 0⟩] false)
 (.block 0 (.loop (.seq (.region [⟨some p13, .bin .lss (.t p12) (.t p11), none, 0⟩] false)
 (.seq (.cond (.t p13) .skip (.exit 0))
 (.seq (.block 1 (.seq (.region [⟨some p14, .mov (.t p12), none, 0⟩, ⟨some p15, .iaddrS 3 (.t p10) (.t p12), none, 0⟩, ⟨some p16, .loadN 3 (.t p15), none, 2⟩, ⟨some p4, .alloc [(.int .u8 (.ofNat 0)), (.int .i64 (.ofNat 0)), .nils], none, 0⟩, ⟨some p3, .mov (.t p14), none, 15⟩, ⟨none, .store 3 (.t p4) (.t p16), none, 31⟩] false)
 (.region [⟨some p17, .faddr 2 (.t p1), none, 0⟩, ⟨some p18, .load1 (.t p17), none, 1⟩, ⟨some p19, .mov (.t p3), none, 0⟩, ⟨some p20, .loadN 3 (.t p4), none, 0⟩, ⟨some p21, .call (.c (.fn 76 [] [])) [(.t p20)], none, 8⟩, ⟨some p22, .iaddrS 3 (.t p18) (.t p19), none, 31⟩, ⟨none, .store 3 (.t p22) (.t p21), none, 63⟩] true)))
 (.region [⟨some p23, .bin .add (.t p12) (.c (.int .i64 (.ofNat 1))), none, 0⟩, ⟨some p12, .mov (.t p23), none, 1⟩] false)))))))
 (.seq (.region [⟨some p24, .loadN 3 (.t p1), none, 0⟩, ⟨none, .store 3 (.t p2) (.t p24), none, 1⟩] false)
 .ret)))) }
theorem ok76 : cFn Try.prog 76 = some ef76 := by kernel_rfl
/-- code.nodes -/
def ef107 : EFn := { id := 107, N := 8, res := [(p2, none)], code := (.seq (.region [⟨some p1, .box (.t p0), none, 0⟩, ⟨some p2, .mov (.c (.int .i64 (.ofNat 0))), none, 0⟩] false)
 (.seq (.seq (.region [⟨some p3, .faddr 0 (.t p1), none, 0⟩, ⟨some p4, .load1 (.t p3), none, 1⟩, ⟨some p5, .bin .eql (.t p4) (.c (.int .u8 (.ofNat 0))), none, 3⟩] false)
 (.cond (.t p5) (.seq (.region [⟨some p2, .mov (.c (.int .i64 (.ofNat 0))), none, 0⟩] false)
 .ret) .skip))
 (.seq (.region [⟨some p6, .loadN 3 (.t p1), none, 0⟩, ⟨some p7, .call (.c (.fn 134 [] [])) [(.t p6)], none, 1⟩, ⟨some p2, .mov (.t p7), none, 3⟩] false)
 .ret))) }
theorem ok107 : cFn Try.prog 107 = some ef107 := by kernel_rfl
/-- code.all$1 -/
def ef108 : EFn := { id := 108, N := 6, res := [], code := (.region [⟨some p3, .load1 (.t p1), none, 0⟩, ⟨some p4, .mov (.t p0), none, 0⟩, ⟨some p5, .call (.c (.fn 109 [] [])) [(.t p3), (.t p4)], none, 3⟩] false) }
theorem ok108 : cFn Try.prog 108 = some ef108 := by kernel_rfl
/-- code.each -/
def ef109 : EFn := { id := 109, N := 32, res := [(p4, none)], code := (.seq (.region [⟨some p4, .mov (.c (.bool false)), none, 0⟩] false)
 (.seq (.seq (.region [⟨some p7, .mov (.t p0), none, 0⟩, ⟨some p8, .len false (.t p7), none, 1⟩, ⟨some p9, .mov (.c (.int .i64 (.ofNat 0))), none, 0⟩] false)
 (.block 0 (.loop (.seq (.region [⟨some p10, .bin .lss (.t p9) (.t p8), none, 0⟩] false)
 (.seq (.cond (.t p10) .skip (.exit 0))
 (.seq (.block 1 (.seq (.region [⟨some p11, .iaddrS 10 (.t p7) (.t p9), none, 0⟩, ⟨some p12, .loadN 10 (.t p11), none, 1⟩, ⟨some p6, .alloc [(.int .u8 (.ofNat 0)), (.int .i64 (.ofNat 0)), (.int .u8 (.ofNat 0)), (.int .i64 (.ofNat 0)), .nils, (.int .u8 (.ofNat 0)), (.int .i64 (.ofNat 0)), .nils, .nils, .nils], none, 0⟩, ⟨none, .store 10 (.t p6) (.t p12), none, 7⟩] false)
 (.seq (.region [⟨some p13, .mov (.t p1), none, 0⟩, ⟨some p14, .loadN 10 (.t p6), none, 0⟩, ⟨some p15, .call (.t p13) [(.t p14)], none, 3⟩, ⟨some p16, .un .not (.t p15), none, 7⟩, ⟨some p17, .mov (.t p16), none, 15⟩, ⟨some p18, .faddr 8 (.t p6), some (p17, false), 31⟩, ⟨some p19, .load1 (.t p18), some (p17, false), 63⟩, ⟨some p20, .mov (.t p1), some (p17, false), 31⟩, ⟨some p21, .call (.c (.fn 109 [] [])) [(.t p19), (.t p20)], some (p17, false), 255⟩, ⟨some p22, .un .not (.t p21), some (p17, false), 511⟩, ⟨some p23, .pick (.t p17) (.c (.bool true)) (.t p22), none, 1023⟩, ⟨some p24, .mov (.t p23), none, 2047⟩, ⟨some p25, .faddr 9 (.t p6), some (p24, false), 4095⟩, ⟨some p26, .load1 (.t p25), some (p24, false), 8191⟩, ⟨some p27, .mov (.t p1), some (p24, false), 4095⟩, ⟨some p28, .call (.c (.fn 109 [] [])) [(.t p26), (.t p27)], some (p24, false), 32767⟩, ⟨some p29, .un .not (.t p28), some (p24, false), 65535⟩, ⟨some p30, .pick (.t p24) (.c (.bool true)) (.t p29), none, 131071⟩] false)
 (.cond (.t p30) (.seq (.region [⟨some p4, .mov (.c (.bool false)), none, 0⟩] false)
 .ret) .skip))))
 (.region [⟨some p31, .bin .add (.t p9) (.c (.int .i64 (.ofNat 1))), none, 0⟩, ⟨some p9, .mov (.t p31), none, 1⟩] false)))))))
 (.seq (.region [⟨some p4, .mov (.c (.bool true)), none, 0⟩] false)
 .ret))) }
theorem ok109 : cFn Try.prog 109 = some ef109 := by kernel_rfl
/-- code.of -/
def ef110 : EFn := { id := 110, N := 20, res := [(p2, some (some 6))], code := (.seq (.region [⟨some p2, .alloc [(.bool false), (.bool false), (.bool false), (.bool false), (.bool false), (.bool false)], none, 0⟩] false)
 (.seq (.region [⟨some p4, .build [(.bool false), (.bool false), (.bool false), (.bool false), (.bool false), (.bool false)] [(0, 1, (.c (.bool true))), (1, 1, (.c (.bool true))), (2, 1, (.c (.bool true)))], none, 0⟩, ⟨some p5, .build [(.bool false), (.bool false), (.bool false), (.bool false), (.bool false), (.bool false)] [(0, 1, (.c (.bool true))), (1, 1, (.c (.bool true))), (2, 1, (.c (.bool true)))], none, 0⟩, ⟨some p6, .build [(.bool false), (.bool false), (.bool false), (.bool false), (.bool false), (.bool false)] [(0, 1, (.c (.bool true))), (2, 1, (.c (.bool true))), (3, 1, (.c (.bool true)))], none, 0⟩, ⟨some p7, .build [(.bool false), (.bool false), (.bool false), (.bool false), (.bool false), (.bool false)] [(0, 1, (.c (.bool true))), (2, 1, (.c (.bool true))), (4, 1, (.c (.bool true))), (5, 1, (.c (.bool true)))], none, 0⟩, ⟨some p8, .build [(.bool false), (.bool false), (.bool false), (.bool false), (.bool false), (.bool false)] [(0, 1, (.c (.bool true))), (2, 1, (.c (.bool true))), (4, 1, (.c (.bool true)))], none, 0⟩, ⟨some p9, .build [(.bool false), (.bool false), (.bool false), (.bool false), (.bool false), (.bool false)] [(0, 1, (.c (.bool true)))], none, 0⟩, ⟨some p10, .build [(.bool false), (.bool false), (.bool false), (.bool false), (.bool false), (.bool false)] [(0, 1, (.c (.bool true))), (4, 1, (.c (.bool true))), (5, 1, (.c (.bool true)))], none, 0⟩, ⟨some p11, .build [(.bool false), (.bool false), (.bool false), (.bool false), (.bool false), (.bool false)] [(0, 1, (.c (.bool true))), (2, 1, (.c (.bool true)))], none, 0⟩, ⟨some p12, .build [(.bool false), (.bool false), (.bool false), (.bool false), (.bool false), (.bool false), (.bool false), (.bool false), (.bool false), (.bool false), (.bool false), (.bool false), (.bool false), (.bool false), (.bool false), (.bool false), (.bool false), (.bool false), (.bool false), (.bool false), (.bool false), (.bool false), (.bool false), (.bool false), (.bool false), (.bool false), (.bool false), (.bool false), (.bool false), (.bool false), (.bool false), (.bool false), (.bool false), (.bool false), (.bool false), (.bool false), (.bool false), (.bool false), (.bool false), (.bool false), (.bool false), (.bool false), (.bool false), (.bool false), (.bool false), (.bool false), (.bool false), (.bool false), (.bool false), (.bool false), (.bool false), (.bool false), (.bool false), (.bool false)] [(6, 6, (.t p4)), (12, 6, (.t p5)), (18, 6, (.t p6)), (24, 6, (.t p7)), (30, 6, (.t p8)), (36, 6, (.t p9)), (42, 6, (.t p10)), (48, 6, (.t p11))], none, 255⟩, ⟨some p3, .alloc [(.bool false), (.bool false), (.bool false), (.bool false), (.bool false), (.bool false), (.bool false), (.bool false), (.bool false), (.bool false), (.bool false), (.bool false), (.bool false), (.bool false), (.bool false), (.bool false), (.bool false), (.bool false), (.bool false), (.bool false), (.bool false), (.bool false), (.bool false), (.bool false), (.bool false), (.bool false), (.bool false), (.bool false), (.bool false), (.bool false), (.bool false), (.bool false), (.bool false), (.bool false), (.bool false), (.bool false), (.bool false), (.bool false), (.bool false), (.bool false), (.bool false), (.bool false), (.bool false), (.bool false), (.bool false), (.bool false), (.bool false), (.bool false), (.bool false), (.bool false), (.bool false), (.bool false), (.bool false), (.bool false)], none, 0⟩, ⟨none, .store 54 (.t p3) (.t p12), none, 1023⟩] false)
 (.seq (.seq (.region [⟨some p13, .mov (.t p0), none, 0⟩, ⟨some p14, .conv .i64 (.t p13), none, 1⟩, ⟨some p15, .bin .geq (.t p14) (.c (.int .i64 (.ofNat 9))), none, 3⟩] false)
 (.cond (.t p15) (.seq (.region [⟨some p16, .build [(.bool false), (.bool false), (.bool false), (.bool false), (.bool false), (.bool false)] [], none, 0⟩, ⟨none, .store 6 (.t p2) (.t p16), none, 1⟩] false)
 .ret) .skip))
 (.seq (.region [⟨some p17, .mov (.t p0), none, 0⟩, ⟨some p18, .iaddrA 9 6 (.t p3) (.t p17), none, 1⟩, ⟨some p19, .loadN 6 (.t p18), none, 3⟩, ⟨none, .store 6 (.t p2) (.t p19), none, 7⟩] false)
 .ret)))) }
theorem ok110 : cFn Try.prog 110 = some ef110 := by kernel_rfl
/-- code.shaped$1 -/
def ef111 : EFn := { id := 111, N := 12, res := [(p5, none)], code := (.seq (.region [⟨some p4, .box (.t p1), none, 0⟩, ⟨some p5, .mov (.c (.bool false)), none, 0⟩] false)
 (.seq (.seq (.region [⟨some p6, .mov (.t p0), none, 0⟩] false)
 (.cond (.t p6) (.seq (.region [⟨some p7, .loadN 3 (.t p4), none, 0⟩, ⟨some p8, .load1 (.t p2), none, 0⟩, ⟨some p9, .call (.c (.fn 112 [] [])) [(.t p7), (.t p8)], none, 3⟩, ⟨some p5, .mov (.t p9), none, 7⟩] false)
 .ret) .skip))
 (.seq (.region [⟨some p10, .loadN 3 (.t p4), none, 0⟩, ⟨some p11, .call (.c (.fn 113 [] [])) [(.t p10)], none, 1⟩, ⟨some p5, .mov (.t p11), none, 3⟩] false)
 .ret))) }
theorem ok111 : cFn Try.prog 111 = some ef111 := by kernel_rfl
/-- expr.May -/
def ef112 : EFn := { id := 112, N := 12, res := [(p4, none)], code := (.seq (.region [⟨some p2, .box (.t p0), none, 0⟩, ⟨some p4, .mov (.c (.bool false)), none, 0⟩] false)
 (.seq (.region [⟨some p5, .loadN 3 (.t p2), none, 0⟩, ⟨some p6, .call (.c (.fn 135 [] [])) [(.t p5)], none, 1⟩, ⟨some p7, .mov (.t p6), none, 3⟩, ⟨some p8, .loadN 3 (.t p2), some (p7, true), 7⟩, ⟨some p9, .mov (.t p1), some (p7, true), 7⟩, ⟨some p10, .call (.c (.fn 136 [] [])) [(.t p8), (.t p9)], some (p7, true), 31⟩, ⟨some p11, .pick (.t p7) (.t p10) (.c (.bool false)), none, 63⟩, ⟨some p4, .mov (.t p11), none, 127⟩] false)
 .ret)) }
theorem ok112 : cFn Try.prog 112 = some ef112 := by kernel_rfl
/-- code.none -/
def ef113 : EFn := { id := 113, N := 17, res := [(p2, none)], code := (.seq (.region [⟨some p1, .box (.t p0), none, 0⟩, ⟨some p2, .mov (.c (.bool false)), none, 0⟩] false)
 (.seq (.region [⟨some p3, .faddr 0 (.t p1), none, 0⟩, ⟨some p4, .load1 (.t p3), none, 1⟩, ⟨some p5, .bin .eql (.t p4) (.c (.int .u8 (.ofNat 0))), none, 3⟩, ⟨some p6, .mov (.t p5), none, 7⟩, ⟨some p7, .faddr 1 (.t p1), some (p6, true), 15⟩, ⟨some p8, .load1 (.t p7), some (p6, true), 31⟩, ⟨some p9, .bin .eql (.t p8) (.c (.int .i64 (.ofNat 0))), some (p6, true), 63⟩, ⟨some p10, .pick (.t p6) (.t p9) (.c (.bool false)), none, 127⟩, ⟨some p11, .mov (.t p10), none, 255⟩, ⟨some p12, .faddr 2 (.t p1), some (p11, true), 511⟩, ⟨some p13, .load1 (.t p12), some (p11, true), 1023⟩, ⟨some p14, .len false (.t p13), some (p11, true), 2047⟩, ⟨some p15, .bin .eql (.t p14) (.c (.int .i64 (.ofNat 0))), some (p11, true), 4095⟩, ⟨some p16, .pick (.t p11) (.t p15) (.c (.bool false)), none, 8191⟩, ⟨some p2, .mov (.t p16), none, 16383⟩] false)
 .ret)) }
theorem ok113 : cFn Try.prog 113 = some ef113 := by kernel_rfl
/-- expr.Same -/
def ef114 : EFn := { id := 114, N := 24, res := [(p4, none)], code := (.seq (.region [⟨some p2, .box (.t p0), none, 0⟩, ⟨some p3, .box (.t p1), none, 0⟩, ⟨some p4, .mov (.c (.bool false)), none, 0⟩] false)
 (.seq (.region [⟨some p5, .faddr 0 (.t p2), none, 0⟩, ⟨some p6, .load1 (.t p5), none, 1⟩, ⟨some p7, .faddr 0 (.t p3), none, 0⟩, ⟨some p8, .load1 (.t p7), none, 4⟩, ⟨some p9, .bin .eql (.t p6) (.t p8), none, 15⟩, ⟨some p10, .mov (.t p9), none, 31⟩, ⟨some p11, .faddr 1 (.t p2), some (p10, true), 63⟩, ⟨some p12, .load1 (.t p11), some (p10, true), 127⟩, ⟨some p13, .faddr 1 (.t p3), some (p10, true), 63⟩, ⟨some p14, .load1 (.t p13), some (p10, true), 319⟩, ⟨some p15, .bin .eql (.t p12) (.t p14), some (p10, true), 1023⟩, ⟨some p16, .pick (.t p10) (.t p15) (.c (.bool false)), none, 2047⟩, ⟨some p17, .mov (.t p16), none, 4095⟩, ⟨some p18, .faddr 2 (.t p2), some (p17, true), 8191⟩, ⟨some p19, .load1 (.t p18), some (p17, true), 16383⟩, ⟨some p20, .faddr 2 (.t p3), some (p17, true), 8191⟩, ⟨some p21, .load1 (.t p20), some (p17, true), 40959⟩, ⟨some p22, .call (.c (.fn 137 [] [])) [(.t p19), (.t p21), (.c (.fn 114 [] []))], some (p17, true), 131071⟩, ⟨some p23, .pick (.t p17) (.t p22) (.c (.bool false)), none, 262143⟩, ⟨some p4, .mov (.t p23), none, 524287⟩] false)
 .ret)) }
theorem ok114 : cFn Try.prog 114 = some ef114 := by kernel_rfl
/-- slices.Clone[[]api.Expr,api.Expr] -/
def ef115 : EFn := { id := 115, N := 8, res := [(p2, none)], code := (.seq (.region [⟨some p2, .mov (.c .nils), none, 0⟩] false)
 (.seq (.seq (.region [⟨some p3, .mov (.t p0), none, 0⟩, ⟨some p4, .eq false .nilS (.t p3) (.c .nils), none, 1⟩] false)
 (.cond (.t p4) (.seq (.region [⟨some p2, .mov (.c .nils), none, 0⟩] false)
 .ret) .skip))
 (.seq (.region [⟨some p5, .buildSl [] 0 [], none, 0⟩, ⟨some p6, .mov (.t p0), none, 0⟩, ⟨some p7, .app 3 (.t p5) (.t p6), none, 3⟩, ⟨some p2, .mov (.t p7), none, 7⟩] false)
 .ret))) }
theorem ok115 : cFn Try.prog 115 = some ef115 := by kernel_rfl
/-- expr.Count -/
def ef134 : EFn := { id := 134, N := 19, res := [(p2, none)], code := (.seq (.region [⟨some p1, .box (.t p0), none, 0⟩, ⟨some p2, .mov (.c (.int .i64 (.ofNat 0))), none, 0⟩] false)
 (.seq (.region [⟨some p3, .mov (.c (.int .i64 (.ofNat 1))), none, 0⟩] false)
 (.seq (.seq (.region [⟨some p6, .faddr 2 (.t p1), none, 0⟩, ⟨some p7, .load1 (.t p6), none, 1⟩, ⟨some p8, .len false (.t p7), none, 3⟩, ⟨some p9, .mov (.c (.int .i64 (.ofNat 0))), none, 0⟩] false)
 (.block 0 (.loop (.seq (.region [⟨some p10, .bin .lss (.t p9) (.t p8), none, 0⟩] false)
 (.seq (.cond (.t p10) .skip (.exit 0))
 (.seq (.block 1 (.seq (.region [⟨some p11, .iaddrS 3 (.t p7) (.t p9), none, 0⟩, ⟨some p12, .loadN 3 (.t p11), none, 1⟩, ⟨some p5, .alloc [(.int .u8 (.ofNat 0)), (.int .i64 (.ofNat 0)), .nils], none, 0⟩, ⟨none, .store 3 (.t p5) (.t p12), none, 7⟩] false)
 (.region [⟨some p13, .mov (.t p3), none, 0⟩, ⟨some p14, .loadN 3 (.t p5), none, 0⟩, ⟨some p15, .call (.c (.fn 134 [] [])) [(.t p14)], none, 2⟩, ⟨some p16, .bin .add (.t p13) (.t p15), none, 7⟩, ⟨some p3, .mov (.t p16), none, 15⟩] false)))
 (.region [⟨some p17, .bin .add (.t p9) (.c (.int .i64 (.ofNat 1))), none, 0⟩, ⟨some p9, .mov (.t p17), none, 1⟩] false)))))))
 (.seq (.region [⟨some p18, .mov (.t p3), none, 0⟩, ⟨some p2, .mov (.t p18), none, 1⟩] false)
 .ret)))) }
theorem ok134 : cFn Try.prog 134 = some ef134 := by kernel_rfl
/-- expr.Whole -/
def ef135 : EFn := { id := 135, N := 5, res := [(p2, none)], code := (.seq (.region [⟨some p1, .box (.t p0), none, 0⟩, ⟨some p2, .mov (.c (.bool false)), none, 0⟩] false)
 (.seq (.region [⟨some p3, .loadN 3 (.t p1), none, 0⟩, ⟨some p4, .call (.c (.fn 149 [] [])) [(.t p3), (.c (.int .i64 (.ofNat 6)))], none, 1⟩, ⟨some p2, .mov (.t p4), none, 3⟩] false)
 .ret)) }
theorem ok135 : cFn Try.prog 135 = some ef135 := by kernel_rfl
/-- expr.below -/
def ef136 : EFn := { id := 136, N := 19, res := [(p4, none)], code := (.seq (.region [⟨some p2, .box (.t p0), none, 0⟩, ⟨some p3, .box (.t p1), none, 0⟩, ⟨some p4, .mov (.c (.bool false)), none, 0⟩] false)
 (.seq (.seq (.region [⟨some p5, .faddr 0 (.t p2), none, 0⟩, ⟨some p6, .load1 (.t p5), none, 1⟩, ⟨some p7, .bin .eql (.t p6) (.c (.int .u8 (.ofNat 3))), none, 3⟩, ⟨some p8, .mov (.t p7), none, 7⟩, ⟨some p9, .faddr 1 (.t p2), some (p8, true), 15⟩, ⟨some p10, .load1 (.t p9), some (p8, true), 31⟩, ⟨some p11, .load1 (.t p3), some (p8, true), 15⟩, ⟨some p12, .bin .geq (.t p10) (.t p11), some (p8, true), 127⟩, ⟨some p13, .pick (.t p8) (.t p12) (.c (.bool false)), none, 255⟩] false)
 (.cond (.t p13) (.seq (.region [⟨some p4, .mov (.c (.bool false)), none, 0⟩] false)
 .ret) .skip))
 (.seq (.region [⟨some p14, .faddr 2 (.t p2), none, 0⟩, ⟨some p15, .load1 (.t p14), none, 1⟩, ⟨some p16, .mkfn 151 [] [(.t p3)], none, 0⟩, ⟨some p17, .call (.c (.fn 150 [] [])) [(.t p15), (.t p16)], none, 7⟩, ⟨some p18, .un .not (.t p17), none, 15⟩, ⟨some p4, .mov (.t p18), none, 31⟩] false)
 .ret))) }
theorem ok136 : cFn Try.prog 136 = some ef136 := by kernel_rfl
/-- slices.EqualFunc[[]api.Expr,[]api.Expr,api.Expr,api.Expr] -/
def ef137 : EFn := { id := 137, N := 32, res := [(p6, none)], code := (.seq (.region [⟨some p6, .mov (.c (.bool false)), none, 0⟩] false)
 (.seq (.seq (.region [⟨some p10, .mov (.t p0), none, 0⟩, ⟨some p11, .len false (.t p10), none, 1⟩, ⟨some p12, .mov (.t p1), none, 0⟩, ⟨some p13, .len false (.t p12), none, 4⟩, ⟨some p14, .bin .neq (.t p11) (.t p13), none, 15⟩] false)
 (.cond (.t p14) (.seq (.region [⟨some p6, .mov (.c (.bool false)), none, 0⟩] false)
 .ret) .skip))
 (.seq (.seq (.region [⟨some p15, .mov (.t p0), none, 0⟩, ⟨some p16, .len false (.t p15), none, 1⟩, ⟨some p17, .mov (.c (.int .i64 (.ofNat 0))), none, 0⟩] false)
 (.block 0 (.loop (.seq (.region [⟨some p18, .bin .lss (.t p17) (.t p16), none, 0⟩] false)
 (.seq (.cond (.t p18) .skip (.exit 0))
 (.seq (.block 1 (.seq (.region [⟨some p19, .mov (.t p17), none, 0⟩, ⟨some p20, .iaddrS 3 (.t p15) (.t p17), none, 0⟩, ⟨some p21, .loadN 3 (.t p20), none, 2⟩, ⟨some p8, .alloc [(.int .u8 (.ofNat 0)), (.int .i64 (.ofNat 0)), .nils], none, 0⟩, ⟨some p7, .mov (.t p19), none, 15⟩, ⟨none, .store 3 (.t p8) (.t p21), none, 31⟩] false)
 (.seq (.region [⟨some p22, .mov (.t p1), none, 0⟩, ⟨some p23, .mov (.t p7), none, 0⟩, ⟨some p24, .iaddrS 3 (.t p22) (.t p23), none, 3⟩, ⟨some p25, .loadN 3 (.t p24), none, 7⟩, ⟨some p9, .alloc [(.int .u8 (.ofNat 0)), (.int .i64 (.ofNat 0)), .nils], none, 0⟩, ⟨none, .store 3 (.t p9) (.t p25), none, 31⟩] false)
 (.seq (.region [⟨some p26, .mov (.t p2), none, 0⟩, ⟨some p27, .loadN 3 (.t p8), none, 0⟩, ⟨some p28, .loadN 3 (.t p9), none, 0⟩, ⟨some p29, .call (.t p26) [(.t p27), (.t p28)], none, 7⟩, ⟨some p30, .un .not (.t p29), none, 15⟩] false)
 (.cond (.t p30) (.seq (.region [⟨some p6, .mov (.c (.bool false)), none, 0⟩] false)
 .ret) .skip)))))
 (.region [⟨some p31, .bin .add (.t p17) (.c (.int .i64 (.ofNat 1))), none, 0⟩, ⟨some p17, .mov (.t p31), none, 1⟩] false)))))))
 (.seq (.region [⟨some p6, .mov (.c (.bool true)), none, 0⟩] false)
 .ret)))) }
theorem ok137 : cFn Try.prog 137 = some ef137 := by kernel_rfl
/-- expr.whole -/
def ef149 : EFn := { id := 149, N := 84, res := [(p4, none)], code := (.seq (.region [⟨some p2, .box (.t p0), none, 0⟩, ⟨some p4, .mov (.c (.bool false)), none, 0⟩] false)
 (.seq (.region [⟨some p6, .faddr 2 (.t p2), none, 0⟩, ⟨some p7, .load1 (.t p6), none, 1⟩, ⟨some p8, .len false (.t p7), none, 3⟩, ⟨some p9, .bin .eql (.t p8) (.c (.int .i64 (.ofNat 0))), none, 7⟩, ⟨some p5, .mov (.t p9), none, 15⟩] false)
 (.seq (.block 0 (.seq (.region [⟨some p11, .mov (.t p1), none, 0⟩, ⟨some p12, .bin .lss (.t p11) (.c (.int .i64 (.ofNat 1))), none, 1⟩, ⟨some p10, .mov (.t p12), none, 3⟩] false)
 (.cond (.t p10) (.seq (.region [⟨some p4, .mov (.c (.bool false)), none, 0⟩] false)
 .ret) (.seq (.region [⟨some p14, .faddr 0 (.t p2), none, 0⟩, ⟨some p15, .load1 (.t p14), none, 1⟩, ⟨some p16, .bin .eql (.t p15) (.c (.int .u8 (.ofNat 1))), none, 3⟩, ⟨some p13, .mov (.t p16), none, 7⟩] false)
 (.cond (.t p13) (.seq (.region [⟨some p17, .mov (.t p5), none, 0⟩, ⟨some p4, .mov (.t p17), none, 1⟩] false)
 .ret) (.seq (.region [⟨some p19, .faddr 0 (.t p2), none, 0⟩, ⟨some p20, .load1 (.t p19), none, 1⟩, ⟨some p21, .bin .eql (.t p20) (.c (.int .u8 (.ofNat 2))), none, 3⟩, ⟨some p18, .mov (.t p21), none, 7⟩] false)
 (.cond (.t p18) (.seq (.region [⟨some p22, .mov (.t p5), none, 0⟩, ⟨some p23, .mov (.t p22), none, 1⟩, ⟨some p24, .faddr 1 (.t p2), some (p23, true), 3⟩, ⟨some p25, .load1 (.t p24), some (p23, true), 7⟩, ⟨some p26, .bin .geq (.t p25) (.c (.int .i64 (.ofNat 0))), some (p23, true), 15⟩, ⟨some p27, .pick (.t p23) (.t p26) (.c (.bool false)), none, 31⟩, ⟨some p28, .mov (.t p27), none, 63⟩, ⟨some p29, .faddr 1 (.t p2), some (p28, true), 127⟩, ⟨some p30, .load1 (.t p29), some (p28, true), 255⟩, ⟨some p31, .bin .lss (.t p30) (.c (.int .i64 (.ofNat 8))), some (p28, true), 511⟩, ⟨some p32, .pick (.t p28) (.t p31) (.c (.bool false)), none, 1023⟩, ⟨some p4, .mov (.t p32), none, 2047⟩] false)
 .ret) (.seq (.region [⟨some p34, .faddr 0 (.t p2), none, 0⟩, ⟨some p35, .load1 (.t p34), none, 1⟩, ⟨some p36, .bin .eql (.t p35) (.c (.int .u8 (.ofNat 3))), none, 3⟩, ⟨some p33, .mov (.t p36), none, 7⟩] false)
 (.cond (.t p33) (.seq (.region [⟨some p37, .mov (.t p5), none, 0⟩, ⟨some p38, .mov (.t p37), none, 1⟩, ⟨some p39, .faddr 1 (.t p2), some (p38, true), 3⟩, ⟨some p40, .load1 (.t p39), some (p38, true), 7⟩, ⟨some p41, .bin .geq (.t p40) (.c (.int .i64 (.ofNat 0))), some (p38, true), 15⟩, ⟨some p42, .pick (.t p38) (.t p41) (.c (.bool false)), none, 31⟩, ⟨some p43, .mov (.t p42), none, 63⟩, ⟨some p44, .faddr 1 (.t p2), some (p43, true), 127⟩, ⟨some p45, .load1 (.t p44), some (p43, true), 255⟩, ⟨some p46, .bin .lss (.t p45) (.c (.int .i64 (.ofNat 6))), some (p43, true), 511⟩, ⟨some p47, .pick (.t p43) (.t p46) (.c (.bool false)), none, 1023⟩, ⟨some p4, .mov (.t p47), none, 2047⟩] false)
 .ret) (.seq (.region [⟨some p49, .faddr 0 (.t p2), none, 0⟩, ⟨some p50, .load1 (.t p49), none, 1⟩, ⟨some p51, .bin .lss (.t p50) (.c (.int .u8 (.ofNat 4))), none, 3⟩, ⟨some p52, .mov (.t p51), none, 7⟩, ⟨some p53, .faddr 0 (.t p2), some (p52, false), 15⟩, ⟨some p54, .load1 (.t p53), some (p52, false), 31⟩, ⟨some p55, .bin .gtr (.t p54) (.c (.int .u8 (.ofNat 8))), some (p52, false), 63⟩, ⟨some p56, .pick (.t p52) (.c (.bool true)) (.t p55), none, 127⟩, ⟨some p57, .mov (.t p56), none, 255⟩, ⟨some p58, .faddr 1 (.t p2), some (p57, false), 511⟩, ⟨some p59, .load1 (.t p58), some (p57, false), 1023⟩, ⟨some p60, .bin .neq (.t p59) (.c (.int .i64 (.ofNat 0))), some (p57, false), 2047⟩, ⟨some p61, .pick (.t p57) (.c (.bool true)) (.t p60), none, 4095⟩, ⟨some p62, .mov (.t p61), none, 8191⟩, ⟨some p63, .faddr 2 (.t p2), some (p62, false), 16383⟩, ⟨some p64, .load1 (.t p63), some (p62, false), 32767⟩, ⟨some p65, .len false (.t p64), some (p62, false), 65535⟩, ⟨some p66, .bin .neq (.t p65) (.c (.int .i64 (.ofNat 2))), some (p62, false), 131071⟩, ⟨some p67, .pick (.t p62) (.c (.bool true)) (.t p66), none, 262143⟩, ⟨some p48, .mov (.t p67), none, 524287⟩] false)
 (.cond (.t p48) (.seq (.region [⟨some p4, .mov (.c (.bool false)), none, 0⟩] false)
 .ret) .skip)))))))))))
 (.seq (.region [⟨some p68, .faddr 2 (.t p2), none, 0⟩, ⟨some p69, .load1 (.t p68), none, 1⟩, ⟨some p70, .iaddrS 3 (.t p69) (.c (.int .i64 (.ofNat 0))), none, 3⟩, ⟨some p71, .loadN 3 (.t p70), none, 7⟩, ⟨some p72, .mov (.t p1), none, 0⟩, ⟨some p73, .bin .sub (.t p72) (.c (.int .i64 (.ofNat 1))), none, 16⟩, ⟨some p74, .call (.c (.fn 149 [] [])) [(.t p71), (.t p73)], none, 63⟩, ⟨some p75, .mov (.t p74), none, 127⟩, ⟨some p76, .faddr 2 (.t p2), some (p75, true), 255⟩, ⟨some p77, .load1 (.t p76), some (p75, true), 511⟩, ⟨some p78, .iaddrS 3 (.t p77) (.c (.int .i64 (.ofNat 1))), some (p75, true), 1023⟩, ⟨some p79, .loadN 3 (.t p78), some (p75, true), 2047⟩, ⟨some p80, .mov (.t p1), some (p75, true), 255⟩, ⟨some p81, .bin .sub (.t p80) (.c (.int .i64 (.ofNat 1))), some (p75, true), 4351⟩, ⟨some p82, .call (.c (.fn 149 [] [])) [(.t p79), (.t p81)], some (p75, true), 16383⟩, ⟨some p83, .pick (.t p75) (.t p82) (.c (.bool false)), none, 32767⟩, ⟨some p4, .mov (.t p83), none, 65535⟩] false)
 .ret)))) }
theorem ok149 : cFn Try.prog 149 = some ef149 := by kernel_rfl
/-- slices.ContainsFunc[[]api.Expr,api.Expr] -/
def ef150 : EFn := { id := 150, N := 9, res := [(p4, none)], code := (.seq (.region [⟨some p4, .mov (.c (.bool false)), none, 0⟩] false)
 (.seq (.region [⟨some p5, .mov (.t p0), none, 0⟩, ⟨some p6, .mov (.t p1), none, 0⟩, ⟨some p7, .call (.c (.fn 158 [] [])) [(.t p5), (.t p6)], none, 3⟩, ⟨some p8, .bin .geq (.t p7) (.c (.int .i64 (.ofNat 0))), none, 7⟩, ⟨some p4, .mov (.t p8), none, 15⟩] false)
 .ret)) }
theorem ok150 : cFn Try.prog 150 = some ef150 := by kernel_rfl
/-- expr.below$1 -/
def ef151 : EFn := { id := 151, N := 8, res := [(p3, none)], code := (.seq (.region [⟨some p2, .box (.t p0), none, 0⟩, ⟨some p3, .mov (.c (.bool false)), none, 0⟩] false)
 (.seq (.region [⟨some p4, .loadN 3 (.t p2), none, 0⟩, ⟨some p5, .load1 (.t p1), none, 0⟩, ⟨some p6, .call (.c (.fn 136 [] [])) [(.t p4), (.t p5)], none, 3⟩, ⟨some p7, .un .not (.t p6), none, 7⟩, ⟨some p3, .mov (.t p7), none, 15⟩] false)
 .ret)) }
theorem ok151 : cFn Try.prog 151 = some ef151 := by kernel_rfl
/-- slices.IndexFunc[[]api.Expr,api.Expr] -/
def ef158 : EFn := { id := 158, N := 19, res := [(p4, none)], code := (.seq (.region [⟨some p4, .mov (.c (.int .i64 (.ofNat 0))), none, 0⟩] false)
 (.seq (.seq (.region [⟨some p6, .mov (.t p0), none, 0⟩, ⟨some p7, .len false (.t p6), none, 1⟩, ⟨some p8, .mov (.c (.int .i64 (.ofNat 0))), none, 0⟩] false)
 (.block 0 (.loop (.seq (.region [⟨some p9, .bin .lss (.t p8) (.t p7), none, 0⟩] false)
 (.seq (.cond (.t p9) .skip (.exit 0))
 (.seq (.block 1 (.seq (.region [⟨some p10, .mov (.t p8), none, 0⟩, ⟨some p5, .mov (.t p10), none, 1⟩] false)
 (.seq (.region [⟨some p11, .mov (.t p1), none, 0⟩, ⟨some p12, .mov (.t p0), none, 0⟩, ⟨some p13, .mov (.t p5), none, 0⟩, ⟨some p14, .iaddrS 3 (.t p12) (.t p13), none, 6⟩, ⟨some p15, .loadN 3 (.t p14), none, 14⟩, ⟨some p16, .call (.t p11) [(.t p15)], none, 31⟩] false)
 (.cond (.t p16) (.seq (.region [⟨some p17, .mov (.t p5), none, 0⟩, ⟨some p4, .mov (.t p17), none, 1⟩] false)
 .ret) .skip))))
 (.region [⟨some p18, .bin .add (.t p8) (.c (.int .i64 (.ofNat 1))), none, 0⟩, ⟨some p8, .mov (.t p18), none, 1⟩] false)))))))
 (.seq (.region [⟨some p4, .mov (.c (.int .i64 (.negSucc 0))), none, 0⟩] false)
 .ret))) }
theorem ok158 : cFn Try.prog 158 = some ef158 := by kernel_rfl
noncomputable def ft : Tri EFn := mkFT [ef10, ef34, ef35, ef36, ef37, ef38, ef39, ef40, ef41, ef42, ef43, ef44, ef45, ef70, ef71, ef72, ef73, ef74, ef75, ef76, ef107, ef108, ef109, ef110, ef111, ef112, ef113, ef114, ef115, ef134, ef135, ef136, ef137, ef149, ef150, ef151, ef158]
theorem ftok : FTok Try.prog ft := FTok.cons ok10 (FTok.cons ok34 (FTok.cons ok35 (FTok.cons ok36 (FTok.cons ok37 (FTok.cons ok38 (FTok.cons ok39 (FTok.cons ok40 (FTok.cons ok41 (FTok.cons ok42 (FTok.cons ok43 (FTok.cons ok44 (FTok.cons ok45 (FTok.cons ok70 (FTok.cons ok71 (FTok.cons ok72 (FTok.cons ok73 (FTok.cons ok74 (FTok.cons ok75 (FTok.cons ok76 (FTok.cons ok107 (FTok.cons ok108 (FTok.cons ok109 (FTok.cons ok110 (FTok.cons ok111 (FTok.cons ok112 (FTok.cons ok113 (FTok.cons ok114 (FTok.cons ok115 (FTok.cons ok134 (FTok.cons ok135 (FTok.cons ok136 (FTok.cons ok137 (FTok.cons ok149 (FTok.cons ok150 (FTok.cons ok151 (FTok.cons ok158 (FTok.nil _)))))))))))))))))))))))))))))))))))))
end Go.Proofs.Ytonckpblbdopmaa.Rk
