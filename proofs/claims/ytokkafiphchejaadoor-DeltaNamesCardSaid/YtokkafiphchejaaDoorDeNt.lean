/-
  The functions as they are reckoned: printed by tools/gen_rk.py out of the program's own form; each is held against it.
-/
import Derived.Test.YtokkafiphchejaaDoorRkp
import Derived.Test.YtokkafiphchejaaDoorProg
namespace Go.Proofs.YtokkafiphchejaaDoor.Rk
set_option linter.unusedVariables false
open Go
set_option maxRecDepth 100000
set_option maxHeartbeats 4000000

def p0 : Pt := .e
def p1 : Pt := .l (.e)
def p2 : Pt := .r (.e)
def p3 : Pt := .l (.l (.e))
def p4 : Pt := .r (.l (.e))
def p5 : Pt := .l (.r (.e))
def p6 : Pt := .r (.r (.e))
def p7 : Pt := .l (.l (.l (.e)))
def p8 : Pt := .r (.l (.l (.e)))
def p9 : Pt := .l (.r (.l (.e)))
def p10 : Pt := .r (.r (.l (.e)))
def p11 : Pt := .l (.l (.r (.e)))
def p12 : Pt := .r (.l (.r (.e)))
def p13 : Pt := .l (.r (.r (.e)))
def p14 : Pt := .r (.r (.r (.e)))
def p15 : Pt := .l (.l (.l (.l (.e))))
def p16 : Pt := .r (.l (.l (.l (.e))))
def p17 : Pt := .l (.r (.l (.l (.e))))
def p18 : Pt := .r (.r (.l (.l (.e))))
def p19 : Pt := .l (.l (.r (.l (.e))))
def p20 : Pt := .r (.l (.r (.l (.e))))
def p21 : Pt := .l (.r (.r (.l (.e))))
def p22 : Pt := .r (.r (.r (.l (.e))))
def p23 : Pt := .l (.l (.l (.r (.e))))
def p24 : Pt := .r (.l (.l (.r (.e))))
def p25 : Pt := .l (.r (.l (.r (.e))))
def p26 : Pt := .r (.r (.l (.r (.e))))
def p27 : Pt := .l (.l (.r (.r (.e))))
def p28 : Pt := .r (.l (.r (.r (.e))))
def p29 : Pt := .l (.r (.r (.r (.e))))
def p30 : Pt := .r (.r (.r (.r (.e))))
def p31 : Pt := .l (.l (.l (.l (.l (.e)))))
def p32 : Pt := .r (.l (.l (.l (.l (.e)))))
def p33 : Pt := .l (.r (.l (.l (.l (.e)))))
def p34 : Pt := .r (.r (.l (.l (.l (.e)))))
def p35 : Pt := .l (.l (.r (.l (.l (.e)))))
def p36 : Pt := .r (.l (.r (.l (.l (.e)))))
def p37 : Pt := .l (.r (.r (.l (.l (.e)))))
def p38 : Pt := .r (.r (.r (.l (.l (.e)))))
def p39 : Pt := .l (.l (.l (.r (.l (.e)))))
def p40 : Pt := .r (.l (.l (.r (.l (.e)))))
def p41 : Pt := .l (.r (.l (.r (.l (.e)))))
def p42 : Pt := .r (.r (.l (.r (.l (.e)))))
def p43 : Pt := .l (.l (.r (.r (.l (.e)))))
def p44 : Pt := .r (.l (.r (.r (.l (.e)))))
def p45 : Pt := .l (.r (.r (.r (.l (.e)))))
def p46 : Pt := .r (.r (.r (.r (.l (.e)))))
def p47 : Pt := .l (.l (.l (.l (.r (.e)))))
def p48 : Pt := .r (.l (.l (.l (.r (.e)))))
def p49 : Pt := .l (.r (.l (.l (.r (.e)))))
def p50 : Pt := .r (.r (.l (.l (.r (.e)))))
def p51 : Pt := .l (.l (.r (.l (.r (.e)))))
def p52 : Pt := .r (.l (.r (.l (.r (.e)))))
def p53 : Pt := .l (.r (.r (.l (.r (.e)))))
def p54 : Pt := .r (.r (.r (.l (.r (.e)))))
def p55 : Pt := .l (.l (.l (.r (.r (.e)))))
def p56 : Pt := .r (.l (.l (.r (.r (.e)))))
def p57 : Pt := .l (.r (.l (.r (.r (.e)))))
def p58 : Pt := .r (.r (.l (.r (.r (.e)))))
def p59 : Pt := .l (.l (.r (.r (.r (.e)))))
def p60 : Pt := .r (.l (.r (.r (.r (.e)))))
def p61 : Pt := .l (.r (.r (.r (.r (.e)))))
def p62 : Pt := .r (.r (.r (.r (.r (.e)))))
def p63 : Pt := .l (.l (.l (.l (.l (.l (.e))))))
def p64 : Pt := .r (.l (.l (.l (.l (.l (.e))))))
def p65 : Pt := .l (.r (.l (.l (.l (.l (.e))))))
def p66 : Pt := .r (.r (.l (.l (.l (.l (.e))))))
def p67 : Pt := .l (.l (.r (.l (.l (.l (.e))))))
def p68 : Pt := .r (.l (.r (.l (.l (.l (.e))))))
def p69 : Pt := .l (.r (.r (.l (.l (.l (.e))))))
def p70 : Pt := .r (.r (.r (.l (.l (.l (.e))))))
def p71 : Pt := .l (.l (.l (.r (.l (.l (.e))))))
def p72 : Pt := .r (.l (.l (.r (.l (.l (.e))))))
def p73 : Pt := .l (.r (.l (.r (.l (.l (.e))))))
def p74 : Pt := .r (.r (.l (.r (.l (.l (.e))))))
def p75 : Pt := .l (.l (.r (.r (.l (.l (.e))))))
def p76 : Pt := .r (.l (.r (.r (.l (.l (.e))))))
def p77 : Pt := .l (.r (.r (.r (.l (.l (.e))))))
def p78 : Pt := .r (.r (.r (.r (.l (.l (.e))))))
def p79 : Pt := .l (.l (.l (.l (.r (.l (.e))))))
def p80 : Pt := .r (.l (.l (.l (.r (.l (.e))))))
def p81 : Pt := .l (.r (.l (.l (.r (.l (.e))))))
def p82 : Pt := .r (.r (.l (.l (.r (.l (.e))))))
def p83 : Pt := .l (.l (.r (.l (.r (.l (.e))))))
def p84 : Pt := .r (.l (.r (.l (.r (.l (.e))))))
def p85 : Pt := .l (.r (.r (.l (.r (.l (.e))))))
def p86 : Pt := .r (.r (.r (.l (.r (.l (.e))))))
def p87 : Pt := .l (.l (.l (.r (.r (.l (.e))))))
def p88 : Pt := .r (.l (.l (.r (.r (.l (.e))))))
def p89 : Pt := .l (.r (.l (.r (.r (.l (.e))))))
def p90 : Pt := .r (.r (.l (.r (.r (.l (.e))))))
def p91 : Pt := .l (.l (.r (.r (.r (.l (.e))))))
def p92 : Pt := .r (.l (.r (.r (.r (.l (.e))))))
def p93 : Pt := .l (.r (.r (.r (.r (.l (.e))))))
def p94 : Pt := .r (.r (.r (.r (.r (.l (.e))))))
def p95 : Pt := .l (.l (.l (.l (.l (.r (.e))))))
def p96 : Pt := .r (.l (.l (.l (.l (.r (.e))))))
def p97 : Pt := .l (.r (.l (.l (.l (.r (.e))))))
def p98 : Pt := .r (.r (.l (.l (.l (.r (.e))))))
def p99 : Pt := .l (.l (.r (.l (.l (.r (.e))))))
def p100 : Pt := .r (.l (.r (.l (.l (.r (.e))))))
def p101 : Pt := .l (.r (.r (.l (.l (.r (.e))))))
def p102 : Pt := .r (.r (.r (.l (.l (.r (.e))))))
def p103 : Pt := .l (.l (.l (.r (.l (.r (.e))))))
def p104 : Pt := .r (.l (.l (.r (.l (.r (.e))))))
def p105 : Pt := .l (.r (.l (.r (.l (.r (.e))))))
def p106 : Pt := .r (.r (.l (.r (.l (.r (.e))))))
def p107 : Pt := .l (.l (.r (.r (.l (.r (.e))))))
def p108 : Pt := .r (.l (.r (.r (.l (.r (.e))))))
def p109 : Pt := .l (.r (.r (.r (.l (.r (.e))))))
def p110 : Pt := .r (.r (.r (.r (.l (.r (.e))))))
def p111 : Pt := .l (.l (.l (.l (.r (.r (.e))))))
def p112 : Pt := .r (.l (.l (.l (.r (.r (.e))))))
def p113 : Pt := .l (.r (.l (.l (.r (.r (.e))))))
def p114 : Pt := .r (.r (.l (.l (.r (.r (.e))))))
def p115 : Pt := .l (.l (.r (.l (.r (.r (.e))))))
def p116 : Pt := .r (.l (.r (.l (.r (.r (.e))))))
def p117 : Pt := .l (.r (.r (.l (.r (.r (.e))))))
def p118 : Pt := .r (.r (.r (.l (.r (.r (.e))))))
def p119 : Pt := .l (.l (.l (.r (.r (.r (.e))))))
def p120 : Pt := .r (.l (.l (.r (.r (.r (.e))))))
def p121 : Pt := .l (.r (.l (.r (.r (.r (.e))))))
def p122 : Pt := .r (.r (.l (.r (.r (.r (.e))))))
def p123 : Pt := .l (.l (.r (.r (.r (.r (.e))))))
def p124 : Pt := .r (.l (.r (.r (.r (.r (.e))))))
def p125 : Pt := .l (.r (.r (.r (.r (.r (.e))))))
def p126 : Pt := .r (.r (.r (.r (.r (.r (.e))))))
def p127 : Pt := .l (.l (.l (.l (.l (.l (.l (.e)))))))
def p128 : Pt := .r (.l (.l (.l (.l (.l (.l (.e)))))))
def p129 : Pt := .l (.r (.l (.l (.l (.l (.l (.e)))))))
def p130 : Pt := .r (.r (.l (.l (.l (.l (.l (.e)))))))
def p131 : Pt := .l (.l (.r (.l (.l (.l (.l (.e)))))))
def p132 : Pt := .r (.l (.r (.l (.l (.l (.l (.e)))))))
def p133 : Pt := .l (.r (.r (.l (.l (.l (.l (.e)))))))
def p134 : Pt := .r (.r (.r (.l (.l (.l (.l (.e)))))))
def p135 : Pt := .l (.l (.l (.r (.l (.l (.l (.e)))))))
def p136 : Pt := .r (.l (.l (.r (.l (.l (.l (.e)))))))
def p137 : Pt := .l (.r (.l (.r (.l (.l (.l (.e)))))))
def p138 : Pt := .r (.r (.l (.r (.l (.l (.l (.e)))))))
def p139 : Pt := .l (.l (.r (.r (.l (.l (.l (.e)))))))
def p140 : Pt := .r (.l (.r (.r (.l (.l (.l (.e)))))))
def p141 : Pt := .l (.r (.r (.r (.l (.l (.l (.e)))))))
def p142 : Pt := .r (.r (.r (.r (.l (.l (.l (.e)))))))
def p143 : Pt := .l (.l (.l (.l (.r (.l (.l (.e)))))))
def p144 : Pt := .r (.l (.l (.l (.r (.l (.l (.e)))))))
def p145 : Pt := .l (.r (.l (.l (.r (.l (.l (.e)))))))
def p146 : Pt := .r (.r (.l (.l (.r (.l (.l (.e)))))))
def p147 : Pt := .l (.l (.r (.l (.r (.l (.l (.e)))))))
def p148 : Pt := .r (.l (.r (.l (.r (.l (.l (.e)))))))
def p149 : Pt := .l (.r (.r (.l (.r (.l (.l (.e)))))))
def p150 : Pt := .r (.r (.r (.l (.r (.l (.l (.e)))))))
def p151 : Pt := .l (.l (.l (.r (.r (.l (.l (.e)))))))
def p152 : Pt := .r (.l (.l (.r (.r (.l (.l (.e)))))))
def p153 : Pt := .l (.r (.l (.r (.r (.l (.l (.e)))))))
def p154 : Pt := .r (.r (.l (.r (.r (.l (.l (.e)))))))
def p155 : Pt := .l (.l (.r (.r (.r (.l (.l (.e)))))))
def p156 : Pt := .r (.l (.r (.r (.r (.l (.l (.e)))))))
def p157 : Pt := .l (.r (.r (.r (.r (.l (.l (.e)))))))
def p158 : Pt := .r (.r (.r (.r (.r (.l (.l (.e)))))))
def p159 : Pt := .l (.l (.l (.l (.l (.r (.l (.e)))))))
def p160 : Pt := .r (.l (.l (.l (.l (.r (.l (.e)))))))
def p161 : Pt := .l (.r (.l (.l (.l (.r (.l (.e)))))))
def p162 : Pt := .r (.r (.l (.l (.l (.r (.l (.e)))))))
def p163 : Pt := .l (.l (.r (.l (.l (.r (.l (.e)))))))
def p164 : Pt := .r (.l (.r (.l (.l (.r (.l (.e)))))))
def p165 : Pt := .l (.r (.r (.l (.l (.r (.l (.e)))))))
def p166 : Pt := .r (.r (.r (.l (.l (.r (.l (.e)))))))
def p167 : Pt := .l (.l (.l (.r (.l (.r (.l (.e)))))))
def p168 : Pt := .r (.l (.l (.r (.l (.r (.l (.e)))))))
def p169 : Pt := .l (.r (.l (.r (.l (.r (.l (.e)))))))
def p170 : Pt := .r (.r (.l (.r (.l (.r (.l (.e)))))))
def p171 : Pt := .l (.l (.r (.r (.l (.r (.l (.e)))))))
def p172 : Pt := .r (.l (.r (.r (.l (.r (.l (.e)))))))
def p173 : Pt := .l (.r (.r (.r (.l (.r (.l (.e)))))))
def p174 : Pt := .r (.r (.r (.r (.l (.r (.l (.e)))))))
def p175 : Pt := .l (.l (.l (.l (.r (.r (.l (.e)))))))
def p176 : Pt := .r (.l (.l (.l (.r (.r (.l (.e)))))))
def p177 : Pt := .l (.r (.l (.l (.r (.r (.l (.e)))))))
def p178 : Pt := .r (.r (.l (.l (.r (.r (.l (.e)))))))
def p179 : Pt := .l (.l (.r (.l (.r (.r (.l (.e)))))))
def p180 : Pt := .r (.l (.r (.l (.r (.r (.l (.e)))))))
def p181 : Pt := .l (.r (.r (.l (.r (.r (.l (.e)))))))
def p182 : Pt := .r (.r (.r (.l (.r (.r (.l (.e)))))))
def p183 : Pt := .l (.l (.l (.r (.r (.r (.l (.e)))))))
def p184 : Pt := .r (.l (.l (.r (.r (.r (.l (.e)))))))
def p185 : Pt := .l (.r (.l (.r (.r (.r (.l (.e)))))))
def p186 : Pt := .r (.r (.l (.r (.r (.r (.l (.e)))))))
def p187 : Pt := .l (.l (.r (.r (.r (.r (.l (.e)))))))
def p188 : Pt := .r (.l (.r (.r (.r (.r (.l (.e)))))))
def p189 : Pt := .l (.r (.r (.r (.r (.r (.l (.e)))))))
def p190 : Pt := .r (.r (.r (.r (.r (.r (.l (.e)))))))
def p191 : Pt := .l (.l (.l (.l (.l (.l (.r (.e)))))))
def p192 : Pt := .r (.l (.l (.l (.l (.l (.r (.e)))))))
def p193 : Pt := .l (.r (.l (.l (.l (.l (.r (.e)))))))
def p194 : Pt := .r (.r (.l (.l (.l (.l (.r (.e)))))))
def p195 : Pt := .l (.l (.r (.l (.l (.l (.r (.e)))))))
def p196 : Pt := .r (.l (.r (.l (.l (.l (.r (.e)))))))
def p197 : Pt := .l (.r (.r (.l (.l (.l (.r (.e)))))))
def p198 : Pt := .r (.r (.r (.l (.l (.l (.r (.e)))))))
def p199 : Pt := .l (.l (.l (.r (.l (.l (.r (.e)))))))
def p200 : Pt := .r (.l (.l (.r (.l (.l (.r (.e)))))))
def p201 : Pt := .l (.r (.l (.r (.l (.l (.r (.e)))))))
def p202 : Pt := .r (.r (.l (.r (.l (.l (.r (.e)))))))
def p203 : Pt := .l (.l (.r (.r (.l (.l (.r (.e)))))))
def p204 : Pt := .r (.l (.r (.r (.l (.l (.r (.e)))))))
def p205 : Pt := .l (.r (.r (.r (.l (.l (.r (.e)))))))
def p206 : Pt := .r (.r (.r (.r (.l (.l (.r (.e)))))))
def p207 : Pt := .l (.l (.l (.l (.r (.l (.r (.e)))))))
def p208 : Pt := .r (.l (.l (.l (.r (.l (.r (.e)))))))
def p209 : Pt := .l (.r (.l (.l (.r (.l (.r (.e)))))))
def p210 : Pt := .r (.r (.l (.l (.r (.l (.r (.e)))))))
def p211 : Pt := .l (.l (.r (.l (.r (.l (.r (.e)))))))
def p212 : Pt := .r (.l (.r (.l (.r (.l (.r (.e)))))))
def p213 : Pt := .l (.r (.r (.l (.r (.l (.r (.e)))))))
def p214 : Pt := .r (.r (.r (.l (.r (.l (.r (.e)))))))
def p215 : Pt := .l (.l (.l (.r (.r (.l (.r (.e)))))))
def p216 : Pt := .r (.l (.l (.r (.r (.l (.r (.e)))))))
def p217 : Pt := .l (.r (.l (.r (.r (.l (.r (.e)))))))
def p218 : Pt := .r (.r (.l (.r (.r (.l (.r (.e)))))))
def p219 : Pt := .l (.l (.r (.r (.r (.l (.r (.e)))))))
def p220 : Pt := .r (.l (.r (.r (.r (.l (.r (.e)))))))
def p221 : Pt := .l (.r (.r (.r (.r (.l (.r (.e)))))))
def p222 : Pt := .r (.r (.r (.r (.r (.l (.r (.e)))))))
def p223 : Pt := .l (.l (.l (.l (.l (.r (.r (.e)))))))
def p224 : Pt := .r (.l (.l (.l (.l (.r (.r (.e)))))))
/-- seesawlaw14.DeltaNames -/
def ef7 : EFn := { id := 7, N := 225, res := [(p0, none)], code := (.seq (.region [⟨some p0, .mov (.c (.bool false)), none, 0⟩] false)
 (.seq (.region [⟨some p1, .mov (.c .nilp), none, 0⟩] false)
 (.seq (.region [⟨some p32, .call (.c (.fn 11 [] [])) [(.c (.int .i64 (.ofNat 1000)))], none, 0⟩, ⟨some p31, .mov (.t p32), none, 1⟩, ⟨some p33, .ext 0 (.t p31), none, 3⟩, ⟨some p34, .ext 1 (.t p31), none, 3⟩, ⟨some p2, .mov (.t p33), none, 7⟩, ⟨some p3, .mov (.t p34), none, 31⟩] false)
 (.seq (.region [⟨some p36, .call (.c (.fn 20 [] [])) [(.c (.str [0, 0, 0]))], none, 0⟩, ⟨some p35, .mov (.t p36), none, 1⟩, ⟨some p37, .ext 0 (.t p35), none, 3⟩, ⟨some p38, .ext 1 (.t p35), none, 3⟩, ⟨some p4, .mov (.t p37), none, 7⟩, ⟨some p5, .mov (.t p38), none, 31⟩] false)
 (.seq (.region [⟨some p40, .call (.c (.fn 10 [] [])) [(.c (.int .i64 (.ofNat 2))), (.c (.int .i64 (.ofNat 3))), (.c (.int .i64 (.ofNat 2)))], none, 0⟩, ⟨some p39, .mov (.t p40), none, 1⟩, ⟨some p41, .ext 0 (.t p39), none, 3⟩, ⟨some p42, .ext 1 (.t p39), none, 3⟩, ⟨some p6, .mov (.t p41), none, 7⟩, ⟨some p7, .mov (.t p42), none, 31⟩] false)
 (.seq (.seq (.region [⟨some p43, .mov (.t p3), none, 0⟩, ⟨some p44, .bin .neq (.t p43) (.c (.int .i64 (.ofNat 0))), none, 1⟩, ⟨some p45, .mov (.t p44), none, 3⟩, ⟨some p46, .mov (.t p5), some (p45, false), 7⟩, ⟨some p47, .bin .neq (.t p46) (.c (.int .i64 (.ofNat 0))), some (p45, false), 15⟩, ⟨some p48, .pick (.t p45) (.c (.bool true)) (.t p47), none, 31⟩, ⟨some p49, .mov (.t p48), none, 63⟩, ⟨some p50, .mov (.t p7), some (p49, false), 127⟩, ⟨some p51, .bin .neq (.t p50) (.c (.int .i64 (.ofNat 0))), some (p49, false), 255⟩, ⟨some p52, .pick (.t p49) (.c (.bool true)) (.t p51), none, 511⟩] false)
 (.cond (.t p52) (.seq (.region [⟨some p0, .mov (.c (.bool false)), none, 0⟩] false)
 .ret) .skip))
 (.seq (.region [⟨some p54, .mov (.t p1), none, 0⟩, ⟨some p55, .mov (.t p4), none, 0⟩, ⟨some p56, .call (.c (.fn 22 [] [])) [(.t p54), (.t p55)], none, 3⟩, ⟨some p53, .mov (.t p56), none, 7⟩, ⟨some p57, .ext 0 (.t p53), none, 15⟩, ⟨some p58, .ext 1 (.t p53), none, 15⟩, ⟨some p8, .alloc [(.int .u8 (.ofNat 0)), (.int .i64 (.ofNat 0)), (.int .i64 (.ofNat 0)), (.int .i64 (.ofNat 0)), (.int .i64 (.ofNat 0)), (.int .i64 (.ofNat 0)), (.int .u8 (.ofNat 0))], none, 0⟩, ⟨none, .store 7 (.t p8) (.t p57), none, 95⟩, ⟨some p9, .mov (.t p58), none, 255⟩] false)
 (.seq (.region [⟨some p60, .mov (.t p6), none, 0⟩, ⟨some p61, .call (.c (.fn 22 [] [])) [(.t p60), (.c .nilp)], none, 1⟩, ⟨some p59, .mov (.t p61), none, 3⟩, ⟨some p62, .ext 0 (.t p59), none, 7⟩, ⟨some p63, .ext 1 (.t p59), none, 7⟩, ⟨some p10, .alloc [(.int .u8 (.ofNat 0)), (.int .i64 (.ofNat 0)), (.int .i64 (.ofNat 0)), (.int .i64 (.ofNat 0)), (.int .i64 (.ofNat 0)), (.int .i64 (.ofNat 0)), (.int .u8 (.ofNat 0))], none, 0⟩, ⟨none, .store 7 (.t p10) (.t p62), none, 47⟩, ⟨some p11, .mov (.t p63), none, 127⟩] false)
 (.seq (.seq (.region [⟨some p64, .mov (.t p1), none, 0⟩, ⟨some p65, .mov (.t p2), none, 0⟩, ⟨some p66, .build [(.int .u8 (.ofNat 0)), (.int .i64 (.ofNat 0)), (.int .i64 (.ofNat 0)), (.int .i64 (.ofNat 0)), (.int .i64 (.ofNat 0)), (.int .i64 (.ofNat 0)), (.int .u8 (.ofNat 0))] [], none, 0⟩, ⟨some p67, .call (.c (.fn 12 [] [])) [(.t p64), (.t p65), (.t p66)], none, 7⟩, ⟨some p68, .bin .neq (.t p67) (.c (.int .i64 (.ofNat 2))), none, 15⟩, ⟨some p69, .mov (.t p68), none, 31⟩, ⟨some p70, .mov (.t p9), some (p69, false), 63⟩, ⟨some p71, .bin .neq (.t p70) (.c (.int .i64 (.ofNat 2))), some (p69, false), 127⟩, ⟨some p72, .pick (.t p69) (.c (.bool true)) (.t p71), none, 255⟩, ⟨some p73, .mov (.t p72), none, 511⟩, ⟨some p74, .mov (.t p1), some (p73, false), 1023⟩, ⟨some p75, .call (.c (.fn 16 [] [])) [(.t p74)], some (p73, false), 2047⟩, ⟨some p76, .eq true .nilP (.t p75) (.c .nilp), some (p73, false), 4095⟩, ⟨some p77, .pick (.t p73) (.c (.bool true)) (.t p76), none, 8191⟩, ⟨some p78, .mov (.t p77), none, 16383⟩, ⟨some p79, .mov (.t p6), some (p78, false), 32767⟩, ⟨some p80, .build [(.int .u8 (.ofNat 0)), (.int .i64 (.ofNat 0)), (.int .i64 (.ofNat 0)), (.int .i64 (.ofNat 0)), (.int .i64 (.ofNat 0)), (.int .i64 (.ofNat 0)), (.int .u8 (.ofNat 0))] [], some (p78, false), 32767⟩, ⟨some p81, .call (.c (.fn 12 [] [])) [(.t p79), (.c .nilp), (.t p80)], some (p78, false), 131071⟩, ⟨some p82, .bin .neq (.t p81) (.c (.int .i64 (.ofNat 2))), some (p78, false), 262143⟩, ⟨some p83, .pick (.t p78) (.c (.bool true)) (.t p82), none, 524287⟩, ⟨some p84, .mov (.t p83), none, 1048575⟩, ⟨some p85, .mov (.t p11), some (p84, false), 2097151⟩, ⟨some p86, .bin .neq (.t p85) (.c (.int .i64 (.ofNat 2))), some (p84, false), 4194303⟩, ⟨some p87, .pick (.t p84) (.c (.bool true)) (.t p86), none, 8388607⟩] false)
 (.cond (.t p87) (.seq (.region [⟨some p0, .mov (.c (.bool false)), none, 0⟩] false)
 .ret) .skip))
 (.seq (.seq (.region [⟨some p88, .build [(.int .i64 (.ofNat 0)), (.int .i64 (.ofNat 0)), (.int .i64 (.ofNat 0))] [(0, 1, (.c (.int .i64 (.ofNat 0)))), (1, 1, (.c (.int .i64 (.ofNat 1)))), (2, 1, (.c (.int .i64 (.ofNat 1))))], none, 0⟩, ⟨some p89, .build [(.int .i64 (.ofNat 0)), (.int .i64 (.ofNat 0)), (.int .i64 (.ofNat 0))] [(0, 1, (.c (.int .i64 (.ofNat 7)))), (1, 1, (.c (.int .i64 (.ofNat 1)))), (2, 1, (.c (.int .i64 (.ofNat 1))))], none, 0⟩, ⟨some p90, .build [(.int .i64 (.ofNat 0)), (.int .i64 (.ofNat 0)), (.int .i64 (.ofNat 0))] [(0, 1, (.c (.int .i64 (.ofNat 1)))), (1, 1, (.c (.int .i64 (.ofNat 0)))), (2, 1, (.c (.int .i64 (.ofNat 0))))], none, 0⟩, ⟨some p91, .build [(.int .i64 (.ofNat 0)), (.int .i64 (.ofNat 0)), (.int .i64 (.ofNat 0))] [(0, 1, (.c (.int .i64 (.ofNat 1)))), (1, 1, (.c (.int .i64 (.ofNat 33)))), (2, 1, (.c (.int .i64 (.ofNat 1))))], none, 0⟩, ⟨some p92, .build [(.int .i64 (.ofNat 0)), (.int .i64 (.ofNat 0)), (.int .i64 (.ofNat 0))] [(0, 1, (.c (.int .i64 (.ofNat 1)))), (1, 1, (.c (.int .i64 (.ofNat 2)))), (2, 1, (.c (.int .i64 (.ofNat 3))))], none, 0⟩, ⟨some p93, .build [(.int .i64 (.ofNat 0)), (.int .i64 (.ofNat 0)), (.int .i64 (.ofNat 0))] [(0, 1, (.c (.int .i64 (.ofNat 1)))), (1, 1, (.c (.int .i64 (.ofNat 2)))), (2, 1, (.c (.int .i64 (.ofNat 0))))], none, 0⟩, ⟨some p94, .buildSl [(.int .i64 (.ofNat 0)), (.int .i64 (.ofNat 0)), (.int .i64 (.ofNat 0)), (.int .i64 (.ofNat 0)), (.int .i64 (.ofNat 0)), (.int .i64 (.ofNat 0)), (.int .i64 (.ofNat 0)), (.int .i64 (.ofNat 0)), (.int .i64 (.ofNat 0)), (.int .i64 (.ofNat 0)), (.int .i64 (.ofNat 0)), (.int .i64 (.ofNat 0)), (.int .i64 (.ofNat 0)), (.int .i64 (.ofNat 0)), (.int .i64 (.ofNat 0)), (.int .i64 (.ofNat 0)), (.int .i64 (.ofNat 0)), (.int .i64 (.ofNat 0))] 6 [(0, 3, (.t p88)), (3, 3, (.t p89)), (6, 3, (.t p90)), (9, 3, (.t p91)), (12, 3, (.t p92)), (15, 3, (.t p93))], none, 63⟩, ⟨some p95, .len false (.t p94), none, 127⟩, ⟨some p96, .mov (.c (.int .i64 (.ofNat 0))), none, 0⟩] false)
 (.block 0 (.loop (.seq (.region [⟨some p97, .bin .lss (.t p96) (.t p95), none, 0⟩] false)
 (.seq (.cond (.t p97) .skip (.exit 0))
 (.seq (.block 1 (.seq (.region [⟨some p98, .iaddrS 3 (.t p94) (.t p96), none, 0⟩, ⟨some p99, .loadN 3 (.t p98), none, 1⟩, ⟨some p13, .alloc [(.int .i64 (.ofNat 0)), (.int .i64 (.ofNat 0)), (.int .i64 (.ofNat 0))], none, 0⟩, ⟨none, .store 3 (.t p13) (.t p99), none, 7⟩] false)
 (.seq (.region [⟨some p101, .iaddrA 3 1 (.t p13) (.c (.int .i64 (.ofNat 0))), none, 0⟩, ⟨some p102, .load1 (.t p101), none, 1⟩, ⟨some p103, .iaddrA 3 1 (.t p13) (.c (.int .i64 (.ofNat 1))), none, 0⟩, ⟨some p104, .load1 (.t p103), none, 4⟩, ⟨some p105, .iaddrA 3 1 (.t p13) (.c (.int .i64 (.ofNat 2))), none, 0⟩, ⟨some p106, .load1 (.t p105), none, 16⟩, ⟨some p107, .call (.c (.fn 10 [] [])) [(.t p102), (.t p104), (.t p106)], none, 63⟩, ⟨some p100, .mov (.t p107), none, 127⟩, ⟨some p108, .ext 0 (.t p100), none, 255⟩, ⟨some p109, .ext 1 (.t p100), none, 255⟩, ⟨some p14, .mov (.t p108), none, 511⟩, ⟨some p15, .mov (.t p109), none, 2047⟩] false)
 (.seq (.region [⟨some p110, .mov (.t p14), none, 0⟩, ⟨some p111, .eq true .nilP (.t p110) (.c .nilp), none, 1⟩, ⟨some p112, .mov (.t p111), none, 3⟩, ⟨some p113, .mov (.t p15), some (p112, false), 7⟩, ⟨some p114, .bin .neq (.t p113) (.c (.int .i64 (.ofNat 1))), some (p112, false), 15⟩, ⟨some p115, .pick (.t p112) (.c (.bool true)) (.t p114), none, 31⟩] false)
 (.cond (.t p115) (.seq (.region [⟨some p0, .mov (.c (.bool false)), none, 0⟩] false)
 .ret) .skip)))))
 (.region [⟨some p116, .bin .add (.t p96) (.c (.int .i64 (.ofNat 1))), none, 0⟩, ⟨some p96, .mov (.t p116), none, 1⟩] false)))))))
 (.seq (.seq (.region [⟨some p117, .mov (.t p6), none, 0⟩, ⟨some p118, .mov (.t p2), none, 0⟩, ⟨some p119, .build [(.int .u8 (.ofNat 0)), (.int .i64 (.ofNat 0)), (.int .i64 (.ofNat 0)), (.int .i64 (.ofNat 0)), (.int .i64 (.ofNat 0)), (.int .i64 (.ofNat 0)), (.int .u8 (.ofNat 0))] [(0, 1, (.c (.int .u8 (.ofNat 1)))), (4, 1, (.c (.int .i64 (.ofNat 5))))], none, 0⟩, ⟨some p120, .call (.c (.fn 12 [] [])) [(.t p117), (.t p118), (.t p119)], none, 7⟩, ⟨some p121, .bin .neq (.t p120) (.c (.int .i64 (.ofNat 0))), none, 15⟩] false)
 (.cond (.t p121) (.seq (.region [⟨some p0, .mov (.c (.bool false)), none, 0⟩] false)
 .ret) .skip))
 (.seq (.seq (.region [⟨some p122, .build [(.int .u8 (.ofNat 0)), (.int .i64 (.ofNat 0)), (.int .i64 (.ofNat 0)), (.int .i64 (.ofNat 0)), (.int .i64 (.ofNat 0)), (.int .i64 (.ofNat 0)), (.int .u8 (.ofNat 0))] [], none, 0⟩, ⟨some p123, .build [(.int .u8 (.ofNat 0)), (.int .i64 (.ofNat 0)), (.int .i64 (.ofNat 0)), (.int .i64 (.ofNat 0)), (.int .i64 (.ofNat 0)), (.int .i64 (.ofNat 0)), (.int .u8 (.ofNat 0))] [(0, 1, (.c (.int .u8 (.ofNat 1)))), (1, 1, (.c (.int .i64 (.ofNat 2)))), (4, 1, (.c (.int .i64 (.ofNat 9))))], none, 0⟩, ⟨some p124, .build [(.int .u8 (.ofNat 0)), (.int .i64 (.ofNat 0)), (.int .i64 (.ofNat 0)), (.int .i64 (.ofNat 0)), (.int .i64 (.ofNat 0)), (.int .i64 (.ofNat 0)), (.int .u8 (.ofNat 0))] [(0, 1, (.c (.int .u8 (.ofNat 1)))), (4, 1, (.c (.int .i64 (.ofNat 4))))], none, 0⟩, ⟨some p125, .build [(.int .u8 (.ofNat 0)), (.int .i64 (.ofNat 0)), (.int .i64 (.ofNat 0)), (.int .i64 (.ofNat 0)), (.int .i64 (.ofNat 0)), (.int .i64 (.ofNat 0)), (.int .u8 (.ofNat 0))] [(0, 1, (.c (.int .u8 (.ofNat 2)))), (4, 1, (.c (.int .i64 (.ofNat 6))))], none, 0⟩, ⟨some p126, .build [(.int .u8 (.ofNat 0)), (.int .i64 (.ofNat 0)), (.int .i64 (.ofNat 0)), (.int .i64 (.ofNat 0)), (.int .i64 (.ofNat 0)), (.int .i64 (.ofNat 0)), (.int .u8 (.ofNat 0))] [(0, 1, (.c (.int .u8 (.ofNat 2)))), (1, 1, (.c (.int .i64 (.ofNat 1)))), (4, 1, (.c (.int .i64 (.ofNat 1))))], none, 0⟩, ⟨some p127, .build [(.int .u8 (.ofNat 0)), (.int .i64 (.ofNat 0)), (.int .i64 (.ofNat 0)), (.int .i64 (.ofNat 0)), (.int .i64 (.ofNat 0)), (.int .i64 (.ofNat 0)), (.int .u8 (.ofNat 0))] [(0, 1, (.c (.int .u8 (.ofNat 5)))), (4, 1, (.c (.int .i64 (.ofNat 5))))], none, 0⟩, ⟨some p128, .build [(.int .u8 (.ofNat 0)), (.int .i64 (.ofNat 0)), (.int .i64 (.ofNat 0)), (.int .i64 (.ofNat 0)), (.int .i64 (.ofNat 0)), (.int .i64 (.ofNat 0)), (.int .u8 (.ofNat 0))] [(0, 1, (.c (.int .u8 (.ofNat 7)))), (4, 1, (.c (.int .i64 (.ofNat 5))))], none, 0⟩, ⟨some p129, .buildSl [(.int .u8 (.ofNat 0)), (.int .i64 (.ofNat 0)), (.int .i64 (.ofNat 0)), (.int .i64 (.ofNat 0)), (.int .i64 (.ofNat 0)), (.int .i64 (.ofNat 0)), (.int .u8 (.ofNat 0)), (.int .u8 (.ofNat 0)), (.int .i64 (.ofNat 0)), (.int .i64 (.ofNat 0)), (.int .i64 (.ofNat 0)), (.int .i64 (.ofNat 0)), (.int .i64 (.ofNat 0)), (.int .u8 (.ofNat 0)), (.int .u8 (.ofNat 0)), (.int .i64 (.ofNat 0)), (.int .i64 (.ofNat 0)), (.int .i64 (.ofNat 0)), (.int .i64 (.ofNat 0)), (.int .i64 (.ofNat 0)), (.int .u8 (.ofNat 0)), (.int .u8 (.ofNat 0)), (.int .i64 (.ofNat 0)), (.int .i64 (.ofNat 0)), (.int .i64 (.ofNat 0)), (.int .i64 (.ofNat 0)), (.int .i64 (.ofNat 0)), (.int .u8 (.ofNat 0)), (.int .u8 (.ofNat 0)), (.int .i64 (.ofNat 0)), (.int .i64 (.ofNat 0)), (.int .i64 (.ofNat 0)), (.int .i64 (.ofNat 0)), (.int .i64 (.ofNat 0)), (.int .u8 (.ofNat 0)), (.int .u8 (.ofNat 0)), (.int .i64 (.ofNat 0)), (.int .i64 (.ofNat 0)), (.int .i64 (.ofNat 0)), (.int .i64 (.ofNat 0)), (.int .i64 (.ofNat 0)), (.int .u8 (.ofNat 0)), (.int .u8 (.ofNat 0)), (.int .i64 (.ofNat 0)), (.int .i64 (.ofNat 0)), (.int .i64 (.ofNat 0)), (.int .i64 (.ofNat 0)), (.int .i64 (.ofNat 0)), (.int .u8 (.ofNat 0))] 7 [(0, 7, (.t p122)), (7, 7, (.t p123)), (14, 7, (.t p124)), (21, 7, (.t p125)), (28, 7, (.t p126)), (35, 7, (.t p127)), (42, 7, (.t p128))], none, 127⟩, ⟨some p130, .len false (.t p129), none, 255⟩, ⟨some p131, .mov (.c (.int .i64 (.ofNat 0))), none, 0⟩] false)
 (.block 2 (.loop (.seq (.region [⟨some p132, .bin .lss (.t p131) (.t p130), none, 0⟩] false)
 (.seq (.cond (.t p132) .skip (.exit 2))
 (.seq (.block 3 (.seq (.region [⟨some p133, .iaddrS 7 (.t p129) (.t p131), none, 0⟩, ⟨some p134, .loadN 7 (.t p133), none, 1⟩, ⟨some p17, .alloc [(.int .u8 (.ofNat 0)), (.int .i64 (.ofNat 0)), (.int .i64 (.ofNat 0)), (.int .i64 (.ofNat 0)), (.int .i64 (.ofNat 0)), (.int .i64 (.ofNat 0)), (.int .u8 (.ofNat 0))], none, 0⟩, ⟨none, .store 7 (.t p17) (.t p134), none, 7⟩] false)
 (.seq (.region [⟨some p135, .mov (.t p2), none, 0⟩, ⟨some p136, .call (.c (.fn 13 [] [])) [(.t p135)], none, 1⟩, ⟨some p18, .mov (.t p136), none, 3⟩] false)
 (.seq (.region [⟨some p137, .mov (.t p6), none, 0⟩, ⟨some p138, .mov (.t p2), none, 0⟩, ⟨some p139, .loadN 7 (.t p17), none, 0⟩, ⟨some p140, .call (.c (.fn 12 [] [])) [(.t p137), (.t p138), (.t p139)], none, 7⟩, ⟨some p141, .bin .neq (.t p140) (.c (.int .i64 (.ofNat 4))), none, 15⟩, ⟨some p142, .mov (.t p141), none, 31⟩, ⟨some p143, .mov (.t p2), some (p142, false), 63⟩, ⟨some p144, .call (.c (.fn 13 [] [])) [(.t p143)], some (p142, false), 127⟩, ⟨some p145, .mov (.t p18), some (p142, false), 63⟩, ⟨some p146, .bin .neq (.t p144) (.t p145), some (p142, false), 511⟩, ⟨some p147, .pick (.t p142) (.c (.bool true)) (.t p146), none, 1023⟩] false)
 (.cond (.t p147) (.seq (.region [⟨some p0, .mov (.c (.bool false)), none, 0⟩] false)
 .ret) .skip)))))
 (.region [⟨some p148, .bin .add (.t p131) (.c (.int .i64 (.ofNat 1))), none, 0⟩, ⟨some p131, .mov (.t p148), none, 1⟩] false)))))))
 (.seq (.region [⟨some p150, .call (.c (.fn 11 [] [])) [(.c (.int .i64 (.ofNat 15)))], none, 0⟩, ⟨some p149, .mov (.t p150), none, 1⟩, ⟨some p151, .ext 0 (.t p149), none, 3⟩, ⟨some p152, .ext 1 (.t p149), none, 3⟩, ⟨some p19, .mov (.t p151), none, 7⟩, ⟨some p20, .mov (.t p152), none, 31⟩] false)
 (.seq (.seq (.region [⟨some p153, .mov (.t p20), none, 0⟩, ⟨some p154, .bin .neq (.t p153) (.c (.int .i64 (.ofNat 0))), none, 1⟩, ⟨some p155, .mov (.t p154), none, 3⟩, ⟨some p156, .mov (.t p6), some (p155, false), 7⟩, ⟨some p157, .mov (.t p19), some (p155, false), 7⟩, ⟨some p158, .build [(.int .u8 (.ofNat 0)), (.int .i64 (.ofNat 0)), (.int .i64 (.ofNat 0)), (.int .i64 (.ofNat 0)), (.int .i64 (.ofNat 0)), (.int .i64 (.ofNat 0)), (.int .u8 (.ofNat 0))] [(0, 1, (.c (.int .u8 (.ofNat 3)))), (3, 1, (.c (.int .i64 (.ofNat 2)))), (5, 1, (.c (.int .i64 (.negSucc 9223372036854775807))))], some (p155, false), 7⟩, ⟨some p159, .call (.c (.fn 12 [] [])) [(.t p156), (.t p157), (.t p158)], some (p155, false), 63⟩, ⟨some p160, .bin .neq (.t p159) (.c (.int .i64 (.ofNat 0))), some (p155, false), 127⟩, ⟨some p161, .pick (.t p155) (.c (.bool true)) (.t p160), none, 255⟩] false)
 (.cond (.t p161) (.seq (.region [⟨some p0, .mov (.c (.bool false)), none, 0⟩] false)
 .ret) .skip))
 (.seq (.seq (.region [⟨some p162, .build [(.str []), (.int .i64 (.ofNat 0)), (.int .i64 (.ofNat 0))] [(0, 1, (.c (.str []))), (1, 1, (.c (.int .i64 (.ofNat 0)))), (2, 1, (.c (.int .i64 (.ofNat 8))))], none, 0⟩, ⟨some p163, .build [(.str []), (.int .i64 (.ofNat 0)), (.int .i64 (.ofNat 0))] [(0, 1, (.c (.str [26]))), (1, 1, (.c (.int .i64 (.ofNat 0)))), (2, 1, (.c (.int .i64 (.ofNat 20))))], none, 0⟩, ⟨some p164, .build [(.str []), (.int .i64 (.ofNat 0)), (.int .i64 (.ofNat 0))] [(0, 1, (.c (.str [0, 6]))), (1, 1, (.c (.int .i64 (.ofNat 1)))), (2, 1, (.c (.int .i64 (.ofNat 20))))], none, 0⟩, ⟨some p165, .build [(.str []), (.int .i64 (.ofNat 0)), (.int .i64 (.ofNat 0))] [(0, 1, (.c (.str [2, 2]))), (1, 1, (.c (.int .i64 (.ofNat 1)))), (2, 1, (.c (.int .i64 (.ofNat 20))))], none, 0⟩, ⟨some p166, .build [(.str []), (.int .i64 (.ofNat 0)), (.int .i64 (.ofNat 0))] [(0, 1, (.c (.str [2, 0, 1]))), (1, 1, (.c (.int .i64 (.ofNat 2)))), (2, 1, (.c (.int .i64 (.ofNat 20))))], none, 0⟩, ⟨some p167, .build [(.str []), (.int .i64 (.ofNat 0)), (.int .i64 (.ofNat 0))] [(0, 1, (.c (.str [8, 0]))), (1, 1, (.c (.int .i64 (.ofNat 1)))), (2, 1, (.c (.int .i64 (.ofNat 20))))], none, 0⟩, ⟨some p168, .build [(.str []), (.int .i64 (.ofNat 0)), (.int .i64 (.ofNat 0))] [(0, 1, (.c (.str [12, 1]))), (1, 1, (.c (.int .i64 (.ofNat 1)))), (2, 1, (.c (.int .i64 (.ofNat 20))))], none, 0⟩, ⟨some p169, .build [(.str []), (.int .i64 (.ofNat 0)), (.int .i64 (.ofNat 0))] [(0, 1, (.c (.str [12, 2]))), (1, 1, (.c (.int .i64 (.ofNat 1)))), (2, 1, (.c (.int .i64 (.ofNat 20))))], none, 0⟩, ⟨some p170, .build [(.str []), (.int .i64 (.ofNat 0)), (.int .i64 (.ofNat 0))] [(0, 1, (.c (.str [18, 6]))), (1, 1, (.c (.int .i64 (.ofNat 1)))), (2, 1, (.c (.int .i64 (.ofNat 20))))], none, 0⟩, ⟨some p171, .build [(.str []), (.int .i64 (.ofNat 0)), (.int .i64 (.ofNat 0))] [(0, 1, (.c (.str [18, 5]))), (1, 1, (.c (.int .i64 (.ofNat 0)))), (2, 1, (.c (.int .i64 (.ofNat 0))))], none, 0⟩, ⟨some p172, .build [(.str []), (.int .i64 (.ofNat 0)), (.int .i64 (.ofNat 0))] [(0, 1, (.c (.str [6]))), (1, 1, (.c (.int .i64 (.ofNat 1)))), (2, 1, (.c (.int .i64 (.ofNat 8))))], none, 0⟩, ⟨some p173, .build [(.str []), (.int .i64 (.ofNat 0)), (.int .i64 (.ofNat 0))] [(0, 1, (.c (.str [128, 0]))), (1, 1, (.c (.int .i64 (.ofNat 0)))), (2, 1, (.c (.int .i64 (.ofNat 11))))], none, 0⟩, ⟨some p174, .buildSl [(.str []), (.int .i64 (.ofNat 0)), (.int .i64 (.ofNat 0)), (.str []), (.int .i64 (.ofNat 0)), (.int .i64 (.ofNat 0)), (.str []), (.int .i64 (.ofNat 0)), (.int .i64 (.ofNat 0)), (.str []), (.int .i64 (.ofNat 0)), (.int .i64 (.ofNat 0)), (.str []), (.int .i64 (.ofNat 0)), (.int .i64 (.ofNat 0)), (.str []), (.int .i64 (.ofNat 0)), (.int .i64 (.ofNat 0)), (.str []), (.int .i64 (.ofNat 0)), (.int .i64 (.ofNat 0)), (.str []), (.int .i64 (.ofNat 0)), (.int .i64 (.ofNat 0)), (.str []), (.int .i64 (.ofNat 0)), (.int .i64 (.ofNat 0)), (.str []), (.int .i64 (.ofNat 0)), (.int .i64 (.ofNat 0)), (.str []), (.int .i64 (.ofNat 0)), (.int .i64 (.ofNat 0)), (.str []), (.int .i64 (.ofNat 0)), (.int .i64 (.ofNat 0))] 12 [(0, 3, (.t p162)), (3, 3, (.t p163)), (6, 3, (.t p164)), (9, 3, (.t p165)), (12, 3, (.t p166)), (15, 3, (.t p167)), (18, 3, (.t p168)), (21, 3, (.t p169)), (24, 3, (.t p170)), (27, 3, (.t p171)), (30, 3, (.t p172)), (33, 3, (.t p173))], none, 4095⟩, ⟨some p175, .len false (.t p174), none, 8191⟩, ⟨some p176, .mov (.c (.int .i64 (.ofNat 0))), none, 0⟩] false)
 (.block 4 (.loop (.seq (.region [⟨some p177, .bin .lss (.t p176) (.t p175), none, 0⟩] false)
 (.seq (.cond (.t p177) .skip (.exit 4))
 (.seq (.block 5 (.seq (.region [⟨some p178, .iaddrS 3 (.t p174) (.t p176), none, 0⟩, ⟨some p179, .loadN 3 (.t p178), none, 1⟩, ⟨some p22, .alloc [(.str []), (.int .i64 (.ofNat 0)), (.int .i64 (.ofNat 0))], none, 0⟩, ⟨none, .store 3 (.t p22) (.t p179), none, 7⟩] false)
 (.seq (.region [⟨some p181, .call (.c (.fn 10 [] [])) [(.c (.int .i64 (.ofNat 2))), (.c (.int .i64 (.ofNat 3))), (.c (.int .i64 (.ofNat 2)))], none, 0⟩, ⟨some p180, .mov (.t p181), none, 1⟩, ⟨some p182, .ext 0 (.t p180), none, 3⟩, ⟨some p183, .ext 1 (.t p180), none, 3⟩, ⟨some p23, .mov (.t p182), none, 7⟩, ⟨some p24, .mov (.t p183), none, 31⟩] false)
 (.seq (.region [⟨some p185, .faddr 0 (.t p22), none, 0⟩, ⟨some p186, .load1 (.t p185), none, 1⟩, ⟨some p187, .call (.c (.fn 20 [] [])) [(.t p186)], none, 3⟩, ⟨some p184, .mov (.t p187), none, 7⟩, ⟨some p188, .ext 0 (.t p184), none, 15⟩, ⟨some p189, .ext 1 (.t p184), none, 15⟩, ⟨some p25, .mov (.t p188), none, 31⟩, ⟨some p26, .mov (.t p189), none, 127⟩] false)
 (.seq (.seq (.region [⟨some p190, .mov (.t p24), none, 0⟩, ⟨some p191, .bin .neq (.t p190) (.c (.int .i64 (.ofNat 0))), none, 1⟩, ⟨some p192, .mov (.t p191), none, 3⟩, ⟨some p193, .mov (.t p26), some (p192, false), 7⟩, ⟨some p194, .bin .neq (.t p193) (.c (.int .i64 (.ofNat 0))), some (p192, false), 15⟩, ⟨some p195, .pick (.t p192) (.c (.bool true)) (.t p194), none, 31⟩] false)
 (.cond (.t p195) (.seq (.region [⟨some p0, .mov (.c (.bool false)), none, 0⟩] false)
 .ret) .skip))
 (.seq (.region [⟨some p197, .mov (.t p23), none, 0⟩, ⟨some p198, .mov (.t p25), none, 0⟩, ⟨some p199, .call (.c (.fn 22 [] [])) [(.t p197), (.t p198)], none, 3⟩, ⟨some p196, .mov (.t p199), none, 7⟩, ⟨some p200, .ext 0 (.t p196), none, 15⟩, ⟨some p201, .ext 1 (.t p196), none, 15⟩, ⟨some p27, .alloc [(.int .u8 (.ofNat 0)), (.int .i64 (.ofNat 0)), (.int .i64 (.ofNat 0)), (.int .i64 (.ofNat 0)), (.int .i64 (.ofNat 0)), (.int .i64 (.ofNat 0)), (.int .u8 (.ofNat 0))], none, 0⟩, ⟨none, .store 7 (.t p27) (.t p200), none, 95⟩, ⟨some p28, .mov (.t p201), none, 255⟩] false)
 (.seq (.region [⟨some p203, .mov (.t p25), none, 0⟩, ⟨some p204, .call (.c (.fn 24 [] [])) [(.t p203)], none, 1⟩, ⟨some p202, .mov (.t p204), none, 3⟩, ⟨some p205, .ext 0 (.t p202), none, 7⟩, ⟨some p206, .ext 1 (.t p202), none, 7⟩, ⟨some p29, .mov (.t p205), none, 15⟩, ⟨some p30, .mov (.t p206), none, 63⟩] false)
 (.seq (.region [⟨some p207, .mov (.t p28), none, 0⟩, ⟨some p208, .faddr 2 (.t p22), none, 0⟩, ⟨some p209, .load1 (.t p208), none, 2⟩, ⟨some p210, .bin .neq (.t p207) (.t p209), none, 7⟩, ⟨some p211, .mov (.t p210), none, 15⟩, ⟨some p212, .mov (.t p30), some (p211, false), 31⟩, ⟨some p213, .faddr 2 (.t p22), some (p211, false), 31⟩, ⟨some p214, .load1 (.t p213), some (p211, false), 95⟩, ⟨some p215, .bin .neq (.t p212) (.t p214), some (p211, false), 255⟩, ⟨some p216, .pick (.t p211) (.c (.bool true)) (.t p215), none, 511⟩, ⟨some p217, .mov (.t p216), none, 1023⟩, ⟨some p218, .mov (.t p29), some (p217, false), 2047⟩, ⟨some p219, .faddr 1 (.t p22), some (p217, false), 2047⟩, ⟨some p220, .load1 (.t p219), some (p217, false), 6143⟩, ⟨some p221, .bin .neq (.t p218) (.t p220), some (p217, false), 16383⟩, ⟨some p222, .pick (.t p217) (.c (.bool true)) (.t p221), none, 32767⟩] false)
 (.cond (.t p222) (.seq (.region [⟨some p0, .mov (.c (.bool false)), none, 0⟩] false)
 .ret) .skip)))))))))
 (.region [⟨some p223, .bin .add (.t p176) (.c (.int .i64 (.ofNat 1))), none, 0⟩, ⟨some p176, .mov (.t p223), none, 1⟩] false)))))))
 (.seq (.region [⟨some p224, .call (.c (.fn 9 [] [])) [], none, 0⟩, ⟨some p0, .mov (.t p224), none, 1⟩] false)
 .ret)))))))))))))))) }
theorem ok7 : cFn Tryd.prog 7 = some ef7 := by kernel_rfl
/-- seesawlaw14.awake -/
def ef9 : EFn := { id := 9, N := 45, res := [(p0, none)], code := (.seq (.region [⟨some p0, .mov (.c (.bool false)), none, 0⟩] false)
 (.seq (.region [⟨some p6, .call (.c (.fn 10 [] [])) [(.c (.int .i64 (.ofNat 2))), (.c (.int .i64 (.ofNat 3))), (.c (.int .i64 (.ofNat 2)))], none, 0⟩, ⟨some p5, .mov (.t p6), none, 1⟩, ⟨some p7, .ext 0 (.t p5), none, 3⟩, ⟨some p8, .ext 1 (.t p5), none, 3⟩, ⟨some p1, .mov (.t p7), none, 7⟩, ⟨some p2, .mov (.t p8), none, 31⟩] false)
 (.seq (.region [⟨some p10, .call (.c (.fn 11 [] [])) [(.c (.int .i64 (.ofNat 100)))], none, 0⟩, ⟨some p9, .mov (.t p10), none, 1⟩, ⟨some p11, .ext 0 (.t p9), none, 3⟩, ⟨some p12, .ext 1 (.t p9), none, 3⟩, ⟨some p3, .mov (.t p11), none, 7⟩, ⟨some p4, .mov (.t p12), none, 31⟩] false)
 (.seq (.region [⟨some p13, .mov (.t p2), none, 0⟩, ⟨some p14, .bin .eql (.t p13) (.c (.int .i64 (.ofNat 0))), none, 1⟩, ⟨some p15, .mov (.t p14), none, 3⟩, ⟨some p16, .mov (.t p4), some (p15, true), 7⟩, ⟨some p17, .bin .eql (.t p16) (.c (.int .i64 (.ofNat 0))), some (p15, true), 15⟩, ⟨some p18, .pick (.t p15) (.t p17) (.c (.bool false)), none, 31⟩, ⟨some p19, .mov (.t p18), none, 63⟩, ⟨some p20, .mov (.t p1), some (p19, true), 127⟩, ⟨some p21, .mov (.t p3), some (p19, true), 127⟩, ⟨some p22, .build [(.int .u8 (.ofNat 0)), (.int .i64 (.ofNat 0)), (.int .i64 (.ofNat 0)), (.int .i64 (.ofNat 0)), (.int .i64 (.ofNat 0)), (.int .i64 (.ofNat 0)), (.int .u8 (.ofNat 0))] [(0, 1, (.c (.int .u8 (.ofNat 1)))), (1, 1, (.c (.int .i64 (.ofNat 1)))), (4, 1, (.c (.int .i64 (.ofNat 5))))], some (p19, true), 127⟩, ⟨some p23, .call (.c (.fn 12 [] [])) [(.t p20), (.t p21), (.t p22)], some (p19, true), 1023⟩, ⟨some p24, .bin .eql (.t p23) (.c (.int .i64 (.ofNat 0))), some (p19, true), 2047⟩, ⟨some p25, .pick (.t p19) (.t p24) (.c (.bool false)), none, 4095⟩, ⟨some p26, .mov (.t p25), none, 8191⟩, ⟨some p27, .mov (.t p1), some (p26, true), 16383⟩, ⟨some p28, .mov (.t p3), some (p26, true), 16383⟩, ⟨some p29, .build [(.int .u8 (.ofNat 0)), (.int .i64 (.ofNat 0)), (.int .i64 (.ofNat 0)), (.int .i64 (.ofNat 0)), (.int .i64 (.ofNat 0)), (.int .i64 (.ofNat 0)), (.int .u8 (.ofNat 0))] [(0, 1, (.c (.int .u8 (.ofNat 2)))), (1, 1, (.c (.int .i64 (.ofNat 1)))), (3, 1, (.c (.int .i64 (.ofNat 1)))), (4, 1, (.c (.int .i64 (.ofNat 3))))], some (p26, true), 16383⟩, ⟨some p30, .call (.c (.fn 12 [] [])) [(.t p27), (.t p28), (.t p29)], some (p26, true), 131071⟩, ⟨some p31, .bin .eql (.t p30) (.c (.int .i64 (.ofNat 0))), some (p26, true), 262143⟩, ⟨some p32, .pick (.t p26) (.t p31) (.c (.bool false)), none, 524287⟩, ⟨some p33, .mov (.t p32), none, 1048575⟩, ⟨some p34, .mov (.t p1), some (p33, true), 2097151⟩, ⟨some p35, .mov (.t p3), some (p33, true), 2097151⟩, ⟨some p36, .build [(.int .u8 (.ofNat 0)), (.int .i64 (.ofNat 0)), (.int .i64 (.ofNat 0)), (.int .i64 (.ofNat 0)), (.int .i64 (.ofNat 0)), (.int .i64 (.ofNat 0)), (.int .u8 (.ofNat 0))] [(0, 1, (.c (.int .u8 (.ofNat 3)))), (1, 1, (.c (.int .i64 (.ofNat 1)))), (3, 1, (.c (.int .i64 (.ofNat 1)))), (5, 1, (.c (.int .i64 (.negSucc 3))))], some (p33, true), 2097151⟩, ⟨some p37, .call (.c (.fn 12 [] [])) [(.t p34), (.t p35), (.t p36)], some (p33, true), 16777215⟩, ⟨some p38, .bin .eql (.t p37) (.c (.int .i64 (.ofNat 0))), some (p33, true), 33554431⟩, ⟨some p39, .pick (.t p33) (.t p38) (.c (.bool false)), none, 67108863⟩, ⟨some p40, .mov (.t p39), none, 134217727⟩, ⟨some p41, .mov (.t p3), some (p40, true), 268435455⟩, ⟨some p42, .call (.c (.fn 19 [] [])) [(.t p41)], some (p40, true), 536870911⟩, ⟨some p43, .bin .eql (.t p42) (.c (.str [1, 0, 5, 2, 1, 2, 4, 1, 7])), some (p40, true), 1073741823⟩, ⟨some p44, .pick (.t p40) (.t p43) (.c (.bool false)), none, 2147483647⟩, ⟨some p0, .mov (.t p44), none, 4294967295⟩] false)
 .ret)))) }
theorem ok9 : cFn Tryd.prog 9 = some ef9 := by kernel_rfl
/-- delta.New -/
def ef10 : EFn := { id := 10, N := 19, res := [(p6, none), (p7, none)], code := (.seq (.region [⟨some p6, .mov (.c .nilp), none, 0⟩, ⟨some p7, .mov (.c (.int .i64 (.ofNat 0))), none, 1⟩] false)
 (.seq (.seq (.region [⟨some p8, .build [(.int .u8 (.ofNat 0)), (.int .i64 (.ofNat 0)), (.int .i64 (.ofNat 0)), (.int .i64 (.ofNat 0)), (.int .i64 (.ofNat 0)), (.int .i64 (.ofNat 0)), (.int .u8 (.ofNat 0))] [(0, 1, (.c (.int .u8 (.ofNat 12))))], none, 0⟩, ⟨some p9, .mov (.t p0), none, 0⟩, ⟨some p10, .mov (.t p1), none, 0⟩, ⟨some p11, .mov (.t p2), none, 0⟩, ⟨some p12, .call (.c (.fn 27 [] [])) [(.t p8), (.t p9), (.t p10), (.t p11)], none, 15⟩, ⟨some p13, .un .not (.t p12), none, 31⟩] false)
 (.cond (.t p13) (.seq (.region [⟨some p6, .mov (.c .nilp), none, 0⟩, ⟨some p7, .mov (.c (.int .i64 (.ofNat 1))), none, 1⟩] false)
 .ret) .skip))
 (.seq (.region [⟨some p14, .mov (.t p0), none, 0⟩, ⟨some p15, .mov (.t p1), none, 0⟩, ⟨some p16, .mov (.t p2), none, 0⟩, ⟨some p17, .build [(.int .i64 (.ofNat 0)), (.int .i64 (.ofNat 0)), (.int .i64 (.ofNat 0)), (.int .i64 (.ofNat 0)), (.int .i64 (.ofNat 0)), (.int .i64 (.ofNat 0)), (.int .i64 (.ofNat 0)), (.int .i64 (.ofNat 0)), (.int .i64 (.ofNat 0)), (.int .i64 (.ofNat 0)), (.int .i64 (.ofNat 0)), (.int .i64 (.ofNat 0)), (.int .i64 (.ofNat 0)), (.int .i64 (.ofNat 0)), (.int .i64 (.ofNat 0)), (.int .i64 (.ofNat 0)), (.int .i64 (.ofNat 0)), (.int .i64 (.ofNat 0)), (.int .i64 (.ofNat 0)), (.int .i64 (.ofNat 0)), (.int .i64 (.ofNat 0)), (.int .i64 (.ofNat 0)), (.int .i64 (.ofNat 0)), (.int .i64 (.ofNat 0)), (.int .i64 (.ofNat 0)), (.int .i64 (.ofNat 0)), (.int .i64 (.ofNat 0)), (.int .i64 (.ofNat 0)), (.int .i64 (.ofNat 0)), (.int .i64 (.ofNat 0)), (.int .i64 (.ofNat 0)), (.int .i64 (.ofNat 0)), (.int .i64 (.ofNat 0)), (.int .i64 (.ofNat 0)), (.int .i64 (.ofNat 0)), (.int .i64 (.ofNat 0)), (.int .i64 (.ofNat 0)), (.int .i64 (.ofNat 0)), (.int .i64 (.ofNat 0)), (.int .i64 (.ofNat 0)), (.int .i64 (.ofNat 0)), (.int .i64 (.ofNat 0)), (.int .i64 (.ofNat 0)), (.int .i64 (.ofNat 0)), (.int .i64 (.ofNat 0)), (.int .i64 (.ofNat 0)), (.int .i64 (.ofNat 0)), (.int .i64 (.ofNat 0)), (.int .i64 (.ofNat 0))] [(0, 1, (.t p14)), (1, 1, (.t p15)), (2, 1, (.t p16))], none, 7⟩, ⟨some p18, .box (.t p17), none, 15⟩, ⟨some p6, .mov (.t p18), none, 31⟩, ⟨some p7, .mov (.c (.int .i64 (.ofNat 0))), none, 63⟩] false)
 .ret))) }
theorem ok10 : cFn Tryd.prog 10 = some ef10 := by kernel_rfl
/-- bytes.NewWriter -/
def ef11 : EFn := { id := 11, N := 13, res := [(p2, none), (p3, none)], code := (.seq (.region [⟨some p2, .mov (.c .nilp), none, 0⟩, ⟨some p3, .mov (.c (.int .i64 (.ofNat 0))), none, 1⟩] false)
 (.seq (.seq (.region [⟨some p4, .mov (.t p0), none, 0⟩, ⟨some p5, .bin .lss (.t p4) (.c (.int .i64 (.ofNat 0))), none, 1⟩, ⟨some p6, .mov (.t p5), none, 3⟩, ⟨some p7, .mov (.t p0), some (p6, false), 7⟩, ⟨some p8, .bin .gtr (.t p7) (.c (.int .i64 (.ofNat 16777216))), some (p6, false), 15⟩, ⟨some p9, .pick (.t p6) (.c (.bool true)) (.t p8), none, 31⟩] false)
 (.cond (.t p9) (.seq (.region [⟨some p2, .mov (.c .nilp), none, 0⟩, ⟨some p3, .mov (.c (.int .i64 (.ofNat 1))), none, 1⟩] false)
 .ret) .skip))
 (.seq (.region [⟨some p10, .mov (.t p0), none, 0⟩, ⟨some p11, .build [(.int .i64 (.ofNat 0)), .nils] [(0, 1, (.t p10))], none, 1⟩, ⟨some p12, .box (.t p11), none, 3⟩, ⟨some p2, .mov (.t p12), none, 7⟩, ⟨some p3, .mov (.c (.int .i64 (.ofNat 0))), none, 15⟩] false)
 .ret))) }
theorem ok11 : cFn Tryd.prog 11 = some ef11 := by kernel_rfl
/-- (*delta.Coder).Write -/
def ef12 : EFn := { id := 12, N := 45, res := [(p6, none)], code := (.seq (.region [⟨some p5, .box (.t p2), none, 0⟩, ⟨some p6, .mov (.c (.int .i64 (.ofNat 0))), none, 0⟩] false)
 (.seq (.block 0 (.seq (.region [⟨some p11, .mov (.t p0), none, 0⟩, ⟨some p12, .eq false .nilP (.t p11) (.c .nilp), none, 1⟩, ⟨some p13, .mov (.t p12), none, 3⟩, ⟨some p14, .mov (.t p1), some (p13, false), 7⟩, ⟨some p15, .eq false .nilP (.t p14) (.c .nilp), some (p13, false), 15⟩, ⟨some p16, .pick (.t p13) (.c (.bool true)) (.t p15), none, 31⟩, ⟨some p10, .mov (.t p16), none, 63⟩] false)
 (.cond (.t p10) (.seq (.region [⟨some p6, .mov (.c (.int .i64 (.ofNat 2))), none, 0⟩] false)
 .ret) (.seq (.region [⟨some p18, .mov (.t p0), none, 0⟩, ⟨some p19, .loadN 7 (.t p5), none, 0⟩, ⟨some p20, .call (.c (.fn 29 [] [])) [(.t p18), (.t p19)], none, 3⟩, ⟨some p21, .un .not (.t p20), none, 7⟩, ⟨some p17, .mov (.t p21), none, 15⟩] false)
 (.cond (.t p17) (.seq (.region [⟨some p6, .mov (.c (.int .i64 (.ofNat 4))), none, 0⟩] false)
 .ret) .skip)))))
 (.seq (.region [⟨some p7, .alloc [(.str [])], none, 0⟩, ⟨none, .store 1 (.t p7) (.c (.str [])), none, 1⟩] false)
 (.seq (.region [⟨some p22, .mov (.t p0), none, 0⟩, ⟨some p23, .loadN 7 (.t p5), none, 0⟩, ⟨some p24, .build [.nilp, (.int .u8 (.ofNat 0)), (.int .i64 (.ofNat 0)), (.int .i64 (.ofNat 0)), (.int .i64 (.ofNat 0)), (.int .i64 (.ofNat 0)), (.int .i64 (.ofNat 0)), (.int .u8 (.ofNat 0)), .nilf, .nilf, .nilf] [(0, 1, (.t p22)), (1, 7, (.t p23)), (10, 1, (.c (.fn 30 [] [])))], none, 3⟩, ⟨some p25, .box (.t p24), none, 7⟩, ⟨some p8, .mov (.t p25), none, 15⟩] false)
 (.seq (.region [⟨some p26, .mov (.t p8), none, 0⟩, ⟨some p27, .mkfn 31 [] [(.t p7)], none, 0⟩, ⟨some p28, .nilck (.t p26), none, 3⟩, ⟨some p29, .faddr 8 (.t p28), none, 7⟩, ⟨none, .store 1 (.t p29) (.t p27), none, 15⟩] false)
 (.seq (.region [⟨some p30, .mov (.t p8), none, 0⟩, ⟨some p31, .mkfn 33 [] [(.t p7)], none, 0⟩, ⟨some p32, .nilck (.t p30), none, 3⟩, ⟨some p33, .faddr 9 (.t p32), none, 7⟩, ⟨none, .store 1 (.t p33) (.t p31), none, 15⟩] false)
 (.seq (.region [⟨some p34, .mov (.t p8), none, 0⟩, ⟨some p35, .call (.c (.fn 35 [] [])) [(.t p34)], none, 1⟩] false)
 (.seq (.region [⟨some p36, .mov (.t p1), none, 0⟩, ⟨some p37, .load1 (.t p7), none, 0⟩, ⟨some p38, .call (.c (.fn 36 [] [])) [(.t p36), (.t p37)], none, 3⟩, ⟨some p9, .mov (.t p38), none, 7⟩] false)
 (.seq (.seq (.region [⟨some p39, .mov (.t p9), none, 0⟩, ⟨some p40, .bin .eql (.t p39) (.c (.int .i64 (.ofNat 0))), none, 1⟩] false)
 (.cond (.t p40) (.region [⟨some p41, .mov (.t p0), none, 0⟩, ⟨some p42, .loadN 7 (.t p5), none, 0⟩, ⟨some p43, .call (.c (.fn 37 [] [])) [(.t p41), (.t p42)], none, 3⟩] false) .skip))
 (.seq (.region [⟨some p44, .mov (.t p9), none, 0⟩, ⟨some p6, .mov (.t p44), none, 1⟩] false)
 .ret)))))))))) }
theorem ok12 : cFn Tryd.prog 12 = some ef12 := by kernel_rfl
/-- (*bytes.Writer).Len -/
def ef13 : EFn := { id := 13, N := 10, res := [(p2, none)], code := (.seq (.region [⟨some p2, .mov (.c (.int .i64 (.ofNat 0))), none, 0⟩] false)
 (.seq (.seq (.region [⟨some p3, .mov (.t p0), none, 0⟩, ⟨some p4, .eq false .nilP (.t p3) (.c .nilp), none, 1⟩] false)
 (.cond (.t p4) (.seq (.region [⟨some p2, .mov (.c (.int .i64 (.ofNat 0))), none, 0⟩] false)
 .ret) .skip))
 (.seq (.region [⟨some p5, .mov (.t p0), none, 0⟩, ⟨some p6, .nilck (.t p5), none, 1⟩, ⟨some p7, .faddr 1 (.t p6), none, 3⟩, ⟨some p8, .load1 (.t p7), none, 7⟩, ⟨some p9, .len false (.t p8), none, 15⟩, ⟨some p2, .mov (.t p9), none, 31⟩] false)
 .ret))) }
theorem ok13 : cFn Tryd.prog 13 = some ef13 := by kernel_rfl
/-- (*delta.Coder).Copy -/
def ef16 : EFn := { id := 16, N := 9, res := [(p2, none)], code := (.seq (.region [⟨some p2, .mov (.c .nilp), none, 0⟩] false)
 (.seq (.seq (.region [⟨some p4, .mov (.t p0), none, 0⟩, ⟨some p5, .eq false .nilP (.t p4) (.c .nilp), none, 1⟩] false)
 (.cond (.t p5) (.seq (.region [⟨some p2, .mov (.c .nilp), none, 0⟩] false)
 .ret) .skip))
 (.seq (.region [⟨some p6, .mov (.t p0), none, 0⟩, ⟨some p7, .nilck (.t p6), none, 1⟩, ⟨some p8, .loadN 49 (.t p7), none, 3⟩, ⟨some p3, .alloc [(.int .i64 (.ofNat 0)), (.int .i64 (.ofNat 0)), (.int .i64 (.ofNat 0)), (.int .i64 (.ofNat 0)), (.int .i64 (.ofNat 0)), (.int .i64 (.ofNat 0)), (.int .i64 (.ofNat 0)), (.int .i64 (.ofNat 0)), (.int .i64 (.ofNat 0)), (.int .i64 (.ofNat 0)), (.int .i64 (.ofNat 0)), (.int .i64 (.ofNat 0)), (.int .i64 (.ofNat 0)), (.int .i64 (.ofNat 0)), (.int .i64 (.ofNat 0)), (.int .i64 (.ofNat 0)), (.int .i64 (.ofNat 0)), (.int .i64 (.ofNat 0)), (.int .i64 (.ofNat 0)), (.int .i64 (.ofNat 0)), (.int .i64 (.ofNat 0)), (.int .i64 (.ofNat 0)), (.int .i64 (.ofNat 0)), (.int .i64 (.ofNat 0)), (.int .i64 (.ofNat 0)), (.int .i64 (.ofNat 0)), (.int .i64 (.ofNat 0)), (.int .i64 (.ofNat 0)), (.int .i64 (.ofNat 0)), (.int .i64 (.ofNat 0)), (.int .i64 (.ofNat 0)), (.int .i64 (.ofNat 0)), (.int .i64 (.ofNat 0)), (.int .i64 (.ofNat 0)), (.int .i64 (.ofNat 0)), (.int .i64 (.ofNat 0)), (.int .i64 (.ofNat 0)), (.int .i64 (.ofNat 0)), (.int .i64 (.ofNat 0)), (.int .i64 (.ofNat 0)), (.int .i64 (.ofNat 0)), (.int .i64 (.ofNat 0)), (.int .i64 (.ofNat 0)), (.int .i64 (.ofNat 0)), (.int .i64 (.ofNat 0)), (.int .i64 (.ofNat 0)), (.int .i64 (.ofNat 0)), (.int .i64 (.ofNat 0)), (.int .i64 (.ofNat 0))], none, 0⟩, ⟨none, .store 49 (.t p3) (.t p8), none, 15⟩] false)
 (.seq (.region [⟨some p2, .mov (.t p3), none, 0⟩] false)
 .ret)))) }
theorem ok16 : cFn Tryd.prog 16 = some ef16 := by kernel_rfl
/-- (*bytes.Writer).Text -/
def ef19 : EFn := { id := 19, N := 10, res := [(p2, none)], code := (.seq (.region [⟨some p2, .mov (.c (.str [])), none, 0⟩] false)
 (.seq (.seq (.region [⟨some p3, .mov (.t p0), none, 0⟩, ⟨some p4, .eq false .nilP (.t p3) (.c .nilp), none, 1⟩] false)
 (.cond (.t p4) (.seq (.region [⟨some p2, .mov (.c (.str [])), none, 0⟩] false)
 .ret) .skip))
 (.seq (.region [⟨some p5, .mov (.t p0), none, 0⟩, ⟨some p6, .nilck (.t p5), none, 1⟩, ⟨some p7, .faddr 1 (.t p6), none, 3⟩, ⟨some p8, .load1 (.t p7), none, 7⟩, ⟨some p9, .b2s (.t p8), none, 15⟩, ⟨some p2, .mov (.t p9), none, 31⟩] false)
 .ret))) }
theorem ok19 : cFn Tryd.prog 19 = some ef19 := by kernel_rfl
/-- bytes.NewReader -/
def ef20 : EFn := { id := 20, N := 10, res := [(p2, none), (p3, none)], code := (.seq (.region [⟨some p2, .mov (.c .nilp), none, 0⟩, ⟨some p3, .mov (.c (.int .i64 (.ofNat 0))), none, 1⟩] false)
 (.seq (.seq (.region [⟨some p4, .mov (.t p0), none, 0⟩, ⟨some p5, .len true (.t p4), none, 1⟩, ⟨some p6, .bin .gtr (.t p5) (.c (.int .i64 (.ofNat 16777216))), none, 3⟩] false)
 (.cond (.t p6) (.seq (.region [⟨some p2, .mov (.c .nilp), none, 0⟩, ⟨some p3, .mov (.c (.int .i64 (.ofNat 40))), none, 1⟩] false)
 .ret) .skip))
 (.seq (.region [⟨some p7, .mov (.t p0), none, 0⟩, ⟨some p8, .build [(.str []), (.int .i64 (.ofNat 0)), (.int .i64 (.ofNat 0))] [(0, 1, (.t p7))], none, 1⟩, ⟨some p9, .box (.t p8), none, 3⟩, ⟨some p2, .mov (.t p9), none, 7⟩, ⟨some p3, .mov (.c (.int .i64 (.ofNat 0))), none, 15⟩] false)
 .ret))) }
theorem ok20 : cFn Tryd.prog 20 = some ef20 := by kernel_rfl
/-- (*delta.Coder).Read -/
def ef22 : EFn := { id := 22, N := 56, res := [(p4, some (some 7)), (p5, none)], code := (.seq (.region [⟨some p3, .box (.t p1), none, 0⟩, ⟨some p4, .alloc [(.int .u8 (.ofNat 0)), (.int .i64 (.ofNat 0)), (.int .i64 (.ofNat 0)), (.int .i64 (.ofNat 0)), (.int .i64 (.ofNat 0)), (.int .i64 (.ofNat 0)), (.int .u8 (.ofNat 0))], none, 0⟩, ⟨some p5, .mov (.c (.int .i64 (.ofNat 0))), none, 0⟩] false)
 (.seq (.seq (.region [⟨some p10, .mov (.t p0), none, 0⟩, ⟨some p11, .eq false .nilP (.t p10) (.c .nilp), none, 1⟩, ⟨some p12, .mov (.t p11), none, 3⟩, ⟨some p13, .load1 (.t p3), some (p12, false), 7⟩, ⟨some p14, .eq false .nilP (.t p13) (.c .nilp), some (p12, false), 15⟩, ⟨some p15, .pick (.t p12) (.c (.bool true)) (.t p14), none, 31⟩] false)
 (.cond (.t p15) (.seq (.region [⟨some p16, .build [(.int .u8 (.ofNat 0)), (.int .i64 (.ofNat 0)), (.int .i64 (.ofNat 0)), (.int .i64 (.ofNat 0)), (.int .i64 (.ofNat 0)), (.int .i64 (.ofNat 0)), (.int .u8 (.ofNat 0))] [], none, 0⟩, ⟨none, .store 7 (.t p4) (.t p16), none, 1⟩, ⟨some p5, .mov (.c (.int .i64 (.ofNat 2))), none, 3⟩] false)
 .ret) .skip))
 (.seq (.region [⟨some p17, .load1 (.t p3), none, 0⟩, ⟨some p18, .call (.c (.fn 26 [] [])) [(.t p17)], none, 1⟩, ⟨some p6, .alloc [(.int .i64 (.ofNat 0))], none, 0⟩, ⟨none, .store 1 (.t p6) (.t p18), none, 7⟩] false)
 (.seq (.region [⟨some p19, .mov (.t p0), none, 0⟩, ⟨some p20, .build [(.int .u8 (.ofNat 0)), (.int .i64 (.ofNat 0)), (.int .i64 (.ofNat 0)), (.int .i64 (.ofNat 0)), (.int .i64 (.ofNat 0)), (.int .i64 (.ofNat 0)), (.int .u8 (.ofNat 0))] [(0, 1, (.c (.int .u8 (.ofNat 12))))], none, 0⟩, ⟨some p21, .build [.nilp, (.int .u8 (.ofNat 0)), (.int .i64 (.ofNat 0)), (.int .i64 (.ofNat 0)), (.int .i64 (.ofNat 0)), (.int .i64 (.ofNat 0)), (.int .i64 (.ofNat 0)), (.int .u8 (.ofNat 0)), .nilf, .nilf, .nilf] [(0, 1, (.t p19)), (1, 7, (.t p20))], none, 3⟩, ⟨some p22, .box (.t p21), none, 7⟩, ⟨some p7, .mov (.t p22), none, 15⟩] false)
 (.seq (.region [⟨some p23, .mov (.t p7), none, 0⟩, ⟨some p24, .mkfn 42 [] [(.t p3), (.t p6)], none, 0⟩, ⟨some p25, .nilck (.t p23), none, 3⟩, ⟨some p26, .faddr 8 (.t p25), none, 7⟩, ⟨none, .store 1 (.t p26) (.t p24), none, 15⟩] false)
 (.seq (.region [⟨some p27, .mov (.t p7), none, 0⟩, ⟨some p28, .mkfn 44 [] [(.t p3)], none, 0⟩, ⟨some p29, .nilck (.t p27), none, 3⟩, ⟨some p30, .faddr 9 (.t p29), none, 7⟩, ⟨none, .store 1 (.t p30) (.t p28), none, 15⟩] false)
 (.seq (.region [⟨some p31, .mov (.t p7), none, 0⟩, ⟨some p32, .mkfn 46 [] [(.t p3), (.t p6)], none, 0⟩, ⟨some p33, .nilck (.t p31), none, 3⟩, ⟨some p34, .faddr 10 (.t p33), none, 7⟩, ⟨none, .store 1 (.t p34) (.t p32), none, 15⟩] false)
 (.seq (.region [⟨some p35, .mov (.t p7), none, 0⟩, ⟨some p36, .call (.c (.fn 35 [] [])) [(.t p35)], none, 1⟩] false)
 (.seq (.seq (.region [⟨some p38, .load1 (.t p3), none, 0⟩, ⟨some p39, .call (.c (.fn 24 [] [])) [(.t p38)], none, 1⟩, ⟨some p37, .mov (.t p39), none, 3⟩, ⟨some p40, .ext 0 (.t p37), none, 7⟩, ⟨some p41, .ext 1 (.t p37), none, 7⟩, ⟨some p8, .mov (.t p40), none, 15⟩, ⟨some p9, .mov (.t p41), none, 63⟩] false)
 (.seq (.region [⟨some p42, .mov (.t p9), none, 0⟩, ⟨some p43, .bin .neq (.t p42) (.c (.int .i64 (.ofNat 0))), none, 1⟩] false)
 (.cond (.t p43) (.seq (.region [⟨some p44, .build [(.int .u8 (.ofNat 0)), (.int .i64 (.ofNat 0)), (.int .i64 (.ofNat 0)), (.int .i64 (.ofNat 0)), (.int .i64 (.ofNat 0)), (.int .i64 (.ofNat 0)), (.int .u8 (.ofNat 0))] [], none, 0⟩, ⟨some p45, .mov (.t p9), none, 0⟩, ⟨none, .store 7 (.t p4) (.t p44), none, 1⟩, ⟨some p5, .mov (.t p45), none, 7⟩] false)
 .ret) .skip)))
 (.seq (.region [⟨some p46, .mov (.t p0), none, 0⟩, ⟨some p47, .mov (.t p7), none, 0⟩, ⟨some p48, .nilck (.t p47), none, 2⟩, ⟨some p49, .faddr 1 (.t p48), none, 6⟩, ⟨some p50, .loadN 7 (.t p49), none, 14⟩, ⟨some p51, .call (.c (.fn 37 [] [])) [(.t p46), (.t p50)], none, 31⟩] false)
 (.seq (.region [⟨some p52, .mov (.t p7), none, 0⟩, ⟨some p53, .nilck (.t p52), none, 1⟩, ⟨some p54, .faddr 1 (.t p53), none, 3⟩, ⟨some p55, .loadN 7 (.t p54), none, 7⟩, ⟨none, .store 7 (.t p4) (.t p55), none, 15⟩, ⟨some p5, .mov (.c (.int .i64 (.ofNat 0))), none, 31⟩] false)
 .ret))))))))))) }
theorem ok22 : cFn Tryd.prog 22 = some ef22 := by kernel_rfl
/-- (*bytes.Reader).Wrong -/
def ef24 : EFn := { id := 24, N := 21, res := [(p2, none), (p3, none)], code := (.seq (.region [⟨some p2, .mov (.c (.int .i64 (.ofNat 0))), none, 0⟩, ⟨some p3, .mov (.c (.int .i64 (.ofNat 0))), none, 1⟩] false)
 (.seq (.block 0 (.seq (.region [⟨some p5, .mov (.t p0), none, 0⟩, ⟨some p6, .eq false .nilP (.t p5) (.c .nilp), none, 1⟩, ⟨some p4, .mov (.t p6), none, 3⟩] false)
 (.cond (.t p4) (.seq (.region [⟨some p2, .mov (.c (.int .i64 (.ofNat 0))), none, 0⟩, ⟨some p3, .mov (.c (.int .i64 (.ofNat 2))), none, 1⟩] false)
 .ret) (.seq (.region [⟨some p8, .mov (.t p0), none, 0⟩, ⟨some p9, .nilck (.t p8), none, 1⟩, ⟨some p10, .faddr 2 (.t p9), none, 3⟩, ⟨some p11, .load1 (.t p10), none, 7⟩, ⟨some p12, .bin .eql (.t p11) (.c (.int .i64 (.ofNat 0))), none, 15⟩, ⟨some p7, .mov (.t p12), none, 31⟩] false)
 (.cond (.t p7) (.seq (.region [⟨some p2, .mov (.c (.int .i64 (.ofNat 0))), none, 0⟩, ⟨some p3, .mov (.c (.int .i64 (.ofNat 0))), none, 1⟩] false)
 .ret) .skip)))))
 (.seq (.region [⟨some p13, .mov (.t p0), none, 0⟩, ⟨some p14, .nilck (.t p13), none, 1⟩, ⟨some p15, .faddr 1 (.t p14), none, 3⟩, ⟨some p16, .load1 (.t p15), none, 7⟩, ⟨some p17, .mov (.t p0), none, 0⟩, ⟨some p18, .nilck (.t p17), none, 16⟩, ⟨some p19, .faddr 2 (.t p18), none, 48⟩, ⟨some p20, .load1 (.t p19), none, 112⟩, ⟨some p2, .mov (.t p16), none, 15⟩, ⟨some p3, .mov (.t p20), none, 511⟩] true)
 .ret))) }
theorem ok24 : cFn Tryd.prog 24 = some ef24 := by kernel_rfl
/-- (*bytes.Reader).At -/
def ef26 : EFn := { id := 26, N := 9, res := [(p2, none)], code := (.seq (.region [⟨some p2, .mov (.c (.int .i64 (.ofNat 0))), none, 0⟩] false)
 (.seq (.seq (.region [⟨some p3, .mov (.t p0), none, 0⟩, ⟨some p4, .eq false .nilP (.t p3) (.c .nilp), none, 1⟩] false)
 (.cond (.t p4) (.seq (.region [⟨some p2, .mov (.c (.int .i64 (.ofNat 0))), none, 0⟩] false)
 .ret) .skip))
 (.seq (.region [⟨some p5, .mov (.t p0), none, 0⟩, ⟨some p6, .nilck (.t p5), none, 1⟩, ⟨some p7, .faddr 1 (.t p6), none, 3⟩, ⟨some p8, .load1 (.t p7), none, 7⟩, ⟨some p2, .mov (.t p8), none, 15⟩] false)
 .ret))) }
theorem ok26 : cFn Tryd.prog 26 = some ef26 := by kernel_rfl
/-- (*delta.Coder).tells -/
def ef29 : EFn := { id := 29, N := 69, res := [(p4, none)], code := (.seq (.region [⟨some p3, .box (.t p1), none, 0⟩, ⟨some p4, .mov (.c (.bool false)), none, 0⟩] false)
 (.seq (.seq (.region [⟨some p5, .loadN 7 (.t p3), none, 0⟩, ⟨some p6, .mov (.t p0), none, 0⟩, ⟨some p7, .nilck (.t p6), none, 2⟩, ⟨some p8, .faddr 0 (.t p7), none, 6⟩, ⟨some p9, .load1 (.t p8), none, 14⟩, ⟨some p10, .mov (.t p0), none, 0⟩, ⟨some p11, .nilck (.t p10), none, 32⟩, ⟨some p12, .faddr 1 (.t p11), none, 96⟩, ⟨some p13, .load1 (.t p12), none, 224⟩, ⟨some p14, .mov (.t p0), none, 0⟩, ⟨some p15, .nilck (.t p14), none, 512⟩, ⟨some p16, .faddr 2 (.t p15), none, 1536⟩, ⟨some p17, .load1 (.t p16), none, 3584⟩, ⟨some p18, .call (.c (.fn 27 [] [])) [(.t p5), (.t p9), (.t p13), (.t p17)], none, 8191⟩, ⟨some p19, .un .not (.t p18), none, 16383⟩] true)
 (.cond (.t p19) (.seq (.region [⟨some p4, .mov (.c (.bool false)), none, 0⟩] false)
 .ret) .skip))
 (.seq (.seq (.region [⟨some p20, .faddr 0 (.t p3), none, 0⟩, ⟨some p21, .load1 (.t p20), none, 1⟩] false)
 (.block 0 (.seq (.region [⟨some p23, .bin .eql (.t p21) (.c (.int .u8 (.ofNat 1))), none, 0⟩, ⟨some p22, .mov (.t p23), none, 1⟩] false)
 (.cond (.t p22) (.seq (.region [⟨some p24, .faddr 4 (.t p3), none, 0⟩, ⟨some p25, .load1 (.t p24), none, 1⟩, ⟨some p26, .mov (.t p0), none, 0⟩, ⟨some p27, .nilck (.t p26), none, 4⟩, ⟨some p28, .faddr 4 (.t p27), none, 12⟩, ⟨some p29, .load1 (.t p28), none, 28⟩, ⟨some p30, .bin .geq (.t p25) (.t p29), none, 63⟩, ⟨some p4, .mov (.t p30), none, 127⟩] true)
 .ret) (.seq (.region [⟨some p32, .bin .eql (.t p21) (.c (.int .u8 (.ofNat 2))), none, 0⟩, ⟨some p31, .mov (.t p32), none, 1⟩] false)
 (.cond (.t p31) (.seq (.region [⟨some p33, .faddr 4 (.t p3), none, 0⟩, ⟨some p34, .load1 (.t p33), none, 1⟩, ⟨some p35, .mov (.t p0), none, 0⟩, ⟨some p36, .faddr 1 (.t p3), none, 0⟩, ⟨some p37, .load1 (.t p36), none, 8⟩, ⟨some p38, .nilck (.t p35), none, 4⟩, ⟨some p39, .faddr 5 (.t p38), none, 36⟩, ⟨some p40, .iaddrA 6 1 (.t p39) (.t p37), none, 124⟩, ⟨some p41, .load1 (.t p40), none, 252⟩, ⟨some p42, .bin .leq (.t p34) (.t p41), none, 511⟩, ⟨some p4, .mov (.t p42), none, 1023⟩] true)
 .ret) (.seq (.region [⟨some p44, .bin .eql (.t p21) (.c (.int .u8 (.ofNat 5))), none, 0⟩, ⟨some p43, .mov (.t p44), none, 1⟩] false)
 (.cond (.t p43) (.seq (.region [⟨some p45, .faddr 4 (.t p3), none, 0⟩, ⟨some p46, .load1 (.t p45), none, 1⟩, ⟨some p47, .mov (.t p0), none, 0⟩, ⟨some p48, .nilck (.t p47), none, 4⟩, ⟨some p49, .faddr 4 (.t p48), none, 12⟩, ⟨some p50, .load1 (.t p49), none, 28⟩, ⟨some p51, .bin .gtr (.t p46) (.t p50), none, 63⟩, ⟨some p4, .mov (.t p51), none, 127⟩] true)
 .ret) (.seq (.region [⟨some p53, .bin .eql (.t p21) (.c (.int .u8 (.ofNat 7))), none, 0⟩, ⟨some p52, .mov (.t p53), none, 1⟩] false)
 (.cond (.t p52) (.seq (.region [⟨some p54, .faddr 4 (.t p3), none, 0⟩, ⟨some p55, .load1 (.t p54), none, 1⟩, ⟨some p56, .bin .eql (.t p55) (.c (.int .i64 (.ofNat 0))), none, 3⟩, ⟨some p57, .mov (.t p56), none, 7⟩, ⟨some p58, .faddr 4 (.t p3), some (p57, false), 15⟩, ⟨some p59, .load1 (.t p58), some (p57, false), 31⟩, ⟨some p60, .mov (.t p0), some (p57, false), 15⟩, ⟨some p61, .faddr 1 (.t p3), some (p57, false), 15⟩, ⟨some p62, .load1 (.t p61), some (p57, false), 143⟩, ⟨some p63, .nilck (.t p60), some (p57, false), 79⟩, ⟨some p64, .faddr 11 (.t p63), some (p57, false), 591⟩, ⟨some p65, .iaddrA 6 1 (.t p64) (.t p62), some (p57, false), 1999⟩, ⟨some p66, .load1 (.t p65), some (p57, false), 4047⟩, ⟨some p67, .bin .eql (.t p59) (.t p66), some (p57, false), 8191⟩, ⟨some p68, .pick (.t p57) (.c (.bool true)) (.t p67), none, 16383⟩, ⟨some p4, .mov (.t p68), none, 32767⟩] true)
 .ret) .skip))))))))))
 (.seq (.region [⟨some p4, .mov (.c (.bool true)), none, 0⟩] false)
 .ret)))) }
theorem ok29 : cFn Tryd.prog 29 = some ef29 := by kernel_rfl
/-- (*delta.Coder).Write$1 -/
def ef30 : EFn := { id := 30, N := 0, res := [], code := .skip }
theorem ok30 : cFn Tryd.prog 30 = some ef30 := by kernel_rfl
/-- (*delta.Coder).Write$2 -/
def ef31 : EFn := { id := 31, N := 12, res := [(p5, none)], code := (.seq (.region [⟨some p5, .mov (.c (.int .i64 (.ofNat 0))), none, 0⟩] false)
 (.seq (.region [⟨some p6, .load1 (.t p2), none, 0⟩, ⟨some p7, .mov (.t p0), none, 0⟩, ⟨some p8, .conv .u64 (.t p7), none, 2⟩, ⟨some p9, .call (.c (.fn 32 [] [])) [(.t p8)], none, 6⟩, ⟨some p10, .bin .add (.t p6) (.t p9), none, 15⟩, ⟨none, .store 1 (.t p2) (.t p10), none, 31⟩] true)
 (.seq (.region [⟨some p11, .mov (.t p0), none, 0⟩, ⟨some p5, .mov (.t p11), none, 1⟩] false)
 .ret))) }
theorem ok31 : cFn Tryd.prog 31 = some ef31 := by kernel_rfl
/-- varint.Put -/
def ef32 : EFn := { id := 32, N := 25, res := [(p2, none)], code := (.seq (.region [⟨some p2, .mov (.c (.str [])), none, 0⟩] false)
 (.seq (.region [⟨some p3, .alloc [(.int .u8 (.ofNat 0)), (.int .u8 (.ofNat 0)), (.int .u8 (.ofNat 0)), (.int .u8 (.ofNat 0)), (.int .u8 (.ofNat 0)), (.int .u8 (.ofNat 0)), (.int .u8 (.ofNat 0)), (.int .u8 (.ofNat 0)), (.int .u8 (.ofNat 0)), (.int .u8 (.ofNat 0))], none, 0⟩] false)
 (.seq (.region [⟨some p4, .mov (.c (.int .i64 (.ofNat 0))), none, 0⟩] false)
 (.seq .skip
 (.seq (.block 0 (.loop (.block 1 (.seq (.region [⟨some p5, .mov (.t p4), none, 0⟩, ⟨some p6, .mov (.t p0), none, 0⟩, ⟨some p7, .conv .u8 (.t p6), none, 2⟩, ⟨some p8, .bin .or (.t p7) (.c (.int .u8 (.ofNat 128))), none, 6⟩, ⟨some p9, .iaddrA 10 1 (.t p3) (.t p5), none, 15⟩, ⟨none, .store 1 (.t p9) (.t p8), none, 31⟩] false)
 (.seq (.region [⟨some p10, .mov (.t p4), none, 0⟩, ⟨some p11, .bin .add (.t p10) (.c (.int .i64 (.ofNat 1))), none, 1⟩, ⟨some p4, .mov (.t p11), none, 3⟩] false)
 (.seq (.region [⟨some p12, .mov (.t p0), none, 0⟩, ⟨some p13, .bin .shr (.t p12) (.c (.int .u64 (.ofNat 7))), none, 1⟩, ⟨some p0, .mov (.t p13), none, 3⟩] false)
 (.seq (.region [⟨some p14, .mov (.t p0), none, 0⟩, ⟨some p15, .bin .eql (.t p14) (.c (.int .u64 (.ofNat 0))), none, 1⟩] false)
 (.cond (.t p15) (.exit 0) .skip))))))))
 (.seq (.region [⟨some p16, .mov (.t p4), none, 0⟩, ⟨some p17, .bin .sub (.t p16) (.c (.int .i64 (.ofNat 1))), none, 1⟩, ⟨some p18, .iaddrA 10 1 (.t p3) (.t p17), none, 3⟩, ⟨some p19, .load1 (.t p18), none, 7⟩, ⟨some p20, .bin .andNot (.t p19) (.c (.int .u8 (.ofNat 128))), none, 15⟩, ⟨some p21, .iaddrA 10 1 (.t p3) (.t p17), none, 31⟩, ⟨none, .store 1 (.t p21) (.t p20), none, 63⟩] false)
 (.seq (.region [⟨some p22, .mov (.t p4), none, 0⟩, ⟨some p23, .slcA 10 1 (.t p3) none (some (.t p22)), none, 1⟩, ⟨some p24, .b2s (.t p23), none, 3⟩, ⟨some p2, .mov (.t p24), none, 7⟩] false)
 .ret))))))) }
theorem ok32 : cFn Tryd.prog 32 = some ef32 := by kernel_rfl
/-- (*delta.Coder).Write$3 -/
def ef33 : EFn := { id := 33, N := 10, res := [(p3, none)], code := (.seq (.region [⟨some p3, .mov (.c (.int .i64 (.ofNat 0))), none, 0⟩] false)
 (.seq (.region [⟨some p4, .load1 (.t p1), none, 0⟩, ⟨some p5, .mov (.t p0), none, 0⟩, ⟨some p6, .call (.c (.fn 34 [] [])) [(.t p5)], none, 2⟩, ⟨some p7, .call (.c (.fn 32 [] [])) [(.t p6)], none, 6⟩, ⟨some p8, .bin .add (.t p4) (.t p7), none, 15⟩, ⟨none, .store 1 (.t p1) (.t p8), none, 31⟩] true)
 (.seq (.region [⟨some p9, .mov (.t p0), none, 0⟩, ⟨some p3, .mov (.t p9), none, 1⟩] false)
 .ret))) }
theorem ok33 : cFn Tryd.prog 33 = some ef33 := by kernel_rfl
/-- varint.Zig -/
def ef34 : EFn := { id := 34, N := 10, res := [(p2, none)], code := (.seq (.region [⟨some p2, .mov (.c (.int .u64 (.ofNat 0))), none, 0⟩] false)
 (.seq (.region [⟨some p3, .mov (.t p0), none, 0⟩, ⟨some p4, .conv .u64 (.t p3), none, 1⟩, ⟨some p5, .bin .shl (.t p4) (.c (.int .u64 (.ofNat 1))), none, 3⟩, ⟨some p6, .mov (.t p0), none, 0⟩, ⟨some p7, .bin .shr (.t p6) (.c (.int .u64 (.ofNat 63))), none, 8⟩, ⟨some p8, .conv .u64 (.t p7), none, 24⟩, ⟨some p9, .bin .xor (.t p5) (.t p8), none, 63⟩, ⟨some p2, .mov (.t p9), none, 127⟩] false)
 .ret)) }
theorem ok34 : cFn Tryd.prog 34 = some ef34 := by kernel_rfl
/-- (*delta.line).over -/
def ef35 : EFn := { id := 35, N := 118, res := [], code := (.seq (.region [⟨some p4, .mov (.t p0), none, 0⟩, ⟨some p5, .nilck (.t p4), none, 1⟩, ⟨some p6, .faddr 1 (.t p5), none, 3⟩, ⟨some p7, .faddr 0 (.t p6), none, 7⟩, ⟨some p8, .load1 (.t p7), none, 15⟩, ⟨some p9, .conv .i64 (.t p8), none, 31⟩, ⟨some p10, .bin .sub (.t p9) (.c (.int .i64 (.ofNat 1))), none, 63⟩, ⟨some p11, .mov (.t p0), none, 0⟩, ⟨some p12, .nilck (.t p11), none, 128⟩, ⟨some p13, .faddr 0 (.t p12), none, 384⟩, ⟨some p14, .load1 (.t p13), none, 896⟩, ⟨some p15, .nilck (.t p14), none, 1920⟩, ⟨some p16, .faddr 0 (.t p15), none, 3968⟩, ⟨some p17, .load1 (.t p16), none, 8064⟩, ⟨some p18, .bin .mul (.t p10) (.t p17), none, 16383⟩, ⟨some p19, .mov (.t p0), none, 0⟩, ⟨some p20, .nilck (.t p19), none, 32768⟩, ⟨some p21, .faddr 1 (.t p20), none, 98304⟩, ⟨some p22, .faddr 1 (.t p21), none, 229376⟩, ⟨some p23, .load1 (.t p22), none, 491520⟩, ⟨some p24, .mov (.t p0), none, 0⟩, ⟨some p25, .nilck (.t p24), none, 1048576⟩, ⟨some p26, .faddr 0 (.t p25), none, 3145728⟩, ⟨some p27, .load1 (.t p26), none, 7340032⟩, ⟨some p28, .nilck (.t p27), none, 15728640⟩, ⟨some p29, .faddr 3 (.t p28), none, 32505856⟩, ⟨some p30, .load1 (.t p29), none, 66060288⟩, ⟨some p31, .bin .sub (.t p23) (.t p30), none, 134184960⟩, ⟨some p32, .mov (.t p0), none, 0⟩, ⟨some p33, .nilck (.t p32), none, 268435456⟩, ⟨some p34, .faddr 0 (.t p33), none, 805306368⟩, ⟨some p35, .load1 (.t p34), none, 1879048192⟩, ⟨some p36, .nilck (.t p35), none, 4026531840⟩, ⟨some p37, .faddr 0 (.t p36), none, 8321499136⟩, ⟨some p38, .load1 (.t p37), none, 16911433728⟩, ⟨some p39, .bin .add (.t p31) (.t p38), none, 34359705600⟩, ⟨some p40, .mov (.t p0), none, 0⟩, ⟨some p41, .nilck (.t p40), none, 68719476736⟩, ⟨some p42, .faddr 0 (.t p41), none, 206158430208⟩, ⟨some p43, .load1 (.t p42), none, 481036337152⟩, ⟨some p44, .nilck (.t p43), none, 1030792151040⟩, ⟨some p45, .faddr 0 (.t p44), none, 2130303778816⟩, ⟨some p46, .load1 (.t p45), none, 4329327034368⟩, ⟨some p47, .bin .rem (.t p39) (.t p46), none, 8796092989440⟩, ⟨some p48, .bin .add (.t p18) (.t p47), none, 17592186044415⟩, ⟨some p2, .mov (.t p48), none, 35184372088831⟩] true)
 (.seq (.region [⟨some p49, .mov (.t p0), none, 0⟩, ⟨some p50, .nilck (.t p49), none, 1⟩, ⟨some p51, .faddr 8 (.t p50), none, 3⟩, ⟨some p52, .load1 (.t p51), none, 7⟩, ⟨some p53, .mov (.t p2), none, 0⟩, ⟨some p54, .mov (.t p0), none, 0⟩, ⟨some p55, .nilck (.t p54), none, 32⟩, ⟨some p56, .faddr 0 (.t p55), none, 96⟩, ⟨some p57, .load1 (.t p56), none, 224⟩, ⟨some p58, .nilck (.t p57), none, 480⟩, ⟨some p59, .faddr 0 (.t p58), none, 992⟩, ⟨some p60, .load1 (.t p59), none, 2016⟩, ⟨some p61, .bin .mul (.c (.int .i64 (.ofNat 13))) (.t p60), none, 4064⟩, ⟨some p62, .bin .sub (.t p61) (.c (.int .i64 (.ofNat 1))), none, 8160⟩, ⟨some p63, .call (.t p52) [(.t p53), (.t p62)], none, 16383⟩, ⟨some p2, .mov (.t p63), none, 32767⟩] true)
 (.seq (.region [⟨some p64, .mov (.t p0), none, 0⟩, ⟨some p65, .mov (.t p0), none, 0⟩, ⟨some p66, .mov (.t p2), none, 0⟩, ⟨some p67, .mov (.t p0), none, 0⟩, ⟨some p68, .nilck (.t p67), none, 8⟩, ⟨some p69, .faddr 0 (.t p68), none, 24⟩, ⟨some p70, .load1 (.t p69), none, 56⟩, ⟨some p71, .nilck (.t p70), none, 120⟩, ⟨some p72, .faddr 0 (.t p71), none, 248⟩, ⟨some p73, .load1 (.t p72), none, 504⟩, ⟨some p74, .bin .quo (.t p66) (.t p73), none, 1020⟩, ⟨some p75, .bin .add (.t p74) (.c (.int .i64 (.ofNat 1))), none, 2044⟩, ⟨some p76, .conv .u8 (.t p75), none, 4092⟩, ⟨some p77, .mov (.t p2), none, 0⟩, ⟨some p78, .mov (.t p0), none, 0⟩, ⟨some p79, .nilck (.t p78), none, 16384⟩, ⟨some p80, .faddr 0 (.t p79), none, 49152⟩, ⟨some p81, .load1 (.t p80), none, 114688⟩, ⟨some p82, .nilck (.t p81), none, 245760⟩, ⟨some p83, .faddr 0 (.t p82), none, 507904⟩, ⟨some p84, .load1 (.t p83), none, 1032192⟩, ⟨some p85, .bin .rem (.t p77) (.t p84), none, 2088960⟩, ⟨some p86, .mov (.t p0), none, 0⟩, ⟨some p87, .nilck (.t p86), none, 4194304⟩, ⟨some p88, .faddr 0 (.t p87), none, 12582912⟩, ⟨some p89, .load1 (.t p88), none, 29360128⟩, ⟨some p90, .nilck (.t p89), none, 62914560⟩, ⟨some p91, .faddr 3 (.t p90), none, 130023424⟩, ⟨some p92, .load1 (.t p91), none, 264241152⟩, ⟨some p93, .bin .add (.t p85) (.t p92), none, 536862720⟩, ⟨some p94, .mov (.t p0), none, 0⟩, ⟨some p95, .nilck (.t p94), none, 1073741824⟩, ⟨some p96, .faddr 0 (.t p95), none, 3221225472⟩, ⟨some p97, .load1 (.t p96), none, 7516192768⟩, ⟨some p98, .nilck (.t p97), none, 16106127360⟩, ⟨some p99, .faddr 0 (.t p98), none, 33285996544⟩, ⟨some p100, .load1 (.t p99), none, 67645734912⟩, ⟨some p101, .bin .rem (.t p93) (.t p100), none, 137438945280⟩, ⟨some p102, .nilck (.t p64), none, 136899977213⟩, ⟨some p103, .faddr 1 (.t p102), none, 411777884157⟩, ⟨some p104, .faddr 0 (.t p103), none, 961533698045⟩, ⟨none, .store 1 (.t p104) (.t p76), none, 2061045325821⟩, ⟨some p105, .nilck (.t p65), none, 4398046511103⟩, ⟨some p106, .faddr 1 (.t p105), none, 8796093022207⟩, ⟨some p107, .faddr 1 (.t p106), none, 17592186044415⟩, ⟨none, .store 1 (.t p107) (.t p101), none, 35184372088831⟩] true)
 (.seq (.region [⟨some p108, .build [.nilf, .nilf, .nilf, .nilf, .nilf, .nilf, .nilf, .nilf, .nilf, .nilf, .nilf, .nilf, .nilf, .nilf] [(1, 1, (.c (.fn 56 [] []))), (2, 1, (.c (.fn 57 [] []))), (3, 1, (.c (.fn 58 [] []))), (4, 1, (.c (.fn 59 [] []))), (5, 1, (.c (.fn 60 [] []))), (6, 1, (.c (.fn 59 [] []))), (7, 1, (.c (.fn 61 [] []))), (8, 1, (.c (.fn 58 [] []))), (9, 1, (.c (.fn 59 [] []))), (10, 1, (.c (.fn 62 [] []))), (11, 1, (.c (.fn 59 [] []))), (12, 1, (.c (.fn 63 [] []))), (13, 1, (.c (.fn 63 [] [])))], none, 0⟩, ⟨some p3, .alloc [.nilf, .nilf, .nilf, .nilf, .nilf, .nilf, .nilf, .nilf, .nilf, .nilf, .nilf, .nilf, .nilf, .nilf], none, 0⟩, ⟨none, .store 14 (.t p3) (.t p108), none, 3⟩] false)
 (.region [⟨some p109, .mov (.t p0), none, 0⟩, ⟨some p110, .nilck (.t p109), none, 1⟩, ⟨some p111, .faddr 1 (.t p110), none, 3⟩, ⟨some p112, .faddr 0 (.t p111), none, 7⟩, ⟨some p113, .load1 (.t p112), none, 15⟩, ⟨some p114, .iaddrA 14 1 (.t p3) (.t p113), none, 31⟩, ⟨some p115, .load1 (.t p114), none, 63⟩, ⟨some p116, .mov (.t p0), none, 0⟩, ⟨some p117, .call (.t p115) [(.t p116)], none, 255⟩] false))))) }
theorem ok35 : cFn Tryd.prog 35 = some ef35 := by kernel_rfl
/-- (*bytes.Writer).Raw -/
def ef36 : EFn := { id := 36, N := 31, res := [(p4, none)], code := (.seq (.region [⟨some p4, .mov (.c (.int .i64 (.ofNat 0))), none, 0⟩] false)
 (.seq (.block 0 (.seq (.region [⟨some p6, .mov (.t p0), none, 0⟩, ⟨some p7, .eq false .nilP (.t p6) (.c .nilp), none, 1⟩, ⟨some p5, .mov (.t p7), none, 3⟩] false)
 (.cond (.t p5) (.seq (.region [⟨some p4, .mov (.c (.int .i64 (.ofNat 2))), none, 0⟩] false)
 .ret) (.seq (.region [⟨some p9, .mov (.t p1), none, 0⟩, ⟨some p10, .len true (.t p9), none, 1⟩, ⟨some p11, .mov (.t p0), none, 0⟩, ⟨some p12, .nilck (.t p11), none, 4⟩, ⟨some p13, .faddr 0 (.t p12), none, 12⟩, ⟨some p14, .load1 (.t p13), none, 28⟩, ⟨some p15, .mov (.t p0), none, 0⟩, ⟨some p16, .nilck (.t p15), none, 64⟩, ⟨some p17, .faddr 1 (.t p16), none, 192⟩, ⟨some p18, .load1 (.t p17), none, 448⟩, ⟨some p19, .len false (.t p18), none, 960⟩, ⟨some p20, .bin .sub (.t p14) (.t p19), none, 2044⟩, ⟨some p21, .bin .gtr (.t p10) (.t p20), none, 4095⟩, ⟨some p8, .mov (.t p21), none, 8191⟩] true)
 (.cond (.t p8) (.seq (.region [⟨some p4, .mov (.c (.int .i64 (.ofNat 40))), none, 0⟩] false)
 .ret) .skip)))))
 (.seq (.region [⟨some p22, .mov (.t p0), none, 0⟩, ⟨some p23, .mov (.t p0), none, 0⟩, ⟨some p24, .nilck (.t p23), none, 2⟩, ⟨some p25, .faddr 1 (.t p24), none, 6⟩, ⟨some p26, .load1 (.t p25), none, 14⟩, ⟨some p27, .mov (.t p1), none, 0⟩, ⟨some p28, .app 1 (.t p26) (.t p27), none, 62⟩, ⟨some p29, .nilck (.t p22), none, 127⟩, ⟨some p30, .faddr 1 (.t p29), none, 255⟩, ⟨none, .store 1 (.t p30) (.t p28), none, 511⟩] false)
 (.seq (.region [⟨some p4, .mov (.c (.int .i64 (.ofNat 0))), none, 0⟩] false)
 .ret)))) }
theorem ok36 : cFn Tryd.prog 36 = some ef36 := by kernel_rfl
/-- (*delta.Coder).knows -/
def ef37 : EFn := { id := 37, N := 52, res := [], code := (.seq (.region [⟨some p3, .box (.t p1), none, 0⟩] false)
 (.seq (.region [⟨some p4, .mov (.t p0), none, 0⟩, ⟨some p5, .faddr 1 (.t p3), none, 0⟩, ⟨some p6, .load1 (.t p5), none, 2⟩, ⟨some p7, .nilck (.t p4), none, 7⟩, ⟨some p8, .faddr 3 (.t p7), none, 15⟩, ⟨none, .store 1 (.t p8) (.t p6), none, 31⟩] false)
 (.seq (.region [⟨some p9, .faddr 0 (.t p3), none, 0⟩, ⟨some p10, .load1 (.t p9), none, 1⟩] false)
 (.block 0 (.seq (.region [⟨some p12, .bin .eql (.t p10) (.c (.int .u8 (.ofNat 1))), none, 0⟩, ⟨some p11, .mov (.t p12), none, 1⟩] false)
 (.cond (.t p11) (.region [⟨some p13, .mov (.t p0), none, 0⟩, ⟨some p14, .mov (.t p0), none, 0⟩, ⟨some p15, .faddr 1 (.t p3), none, 0⟩, ⟨some p16, .load1 (.t p15), none, 4⟩, ⟨some p17, .faddr 4 (.t p3), none, 0⟩, ⟨some p18, .load1 (.t p17), none, 16⟩, ⟨some p19, .faddr 4 (.t p3), none, 0⟩, ⟨some p20, .load1 (.t p19), none, 64⟩, ⟨some p21, .nilck (.t p13), none, 49⟩, ⟨some p22, .faddr 4 (.t p21), none, 305⟩, ⟨none, .store 1 (.t p22) (.t p18), none, 817⟩, ⟨some p23, .nilck (.t p14), none, 2⟩, ⟨some p24, .faddr 5 (.t p23), none, 2050⟩, ⟨some p25, .iaddrA 6 1 (.t p24) (.t p16), none, 8191⟩, ⟨none, .store 1 (.t p25) (.t p20), none, 16383⟩] true) (.seq (.region [⟨some p27, .bin .eql (.t p10) (.c (.int .u8 (.ofNat 5))), none, 0⟩, ⟨some p26, .mov (.t p27), none, 1⟩] false)
 (.cond (.t p26) (.region [⟨some p28, .mov (.t p0), none, 0⟩, ⟨some p29, .mov (.t p0), none, 0⟩, ⟨some p30, .faddr 1 (.t p3), none, 0⟩, ⟨some p31, .load1 (.t p30), none, 4⟩, ⟨some p32, .faddr 4 (.t p3), none, 0⟩, ⟨some p33, .load1 (.t p32), none, 16⟩, ⟨some p34, .faddr 4 (.t p3), none, 0⟩, ⟨some p35, .load1 (.t p34), none, 64⟩, ⟨some p36, .nilck (.t p28), none, 49⟩, ⟨some p37, .faddr 4 (.t p36), none, 305⟩, ⟨none, .store 1 (.t p37) (.t p33), none, 817⟩, ⟨some p38, .nilck (.t p29), none, 2⟩, ⟨some p39, .faddr 11 (.t p38), none, 2050⟩, ⟨some p40, .iaddrA 6 1 (.t p39) (.t p31), none, 8191⟩, ⟨none, .store 1 (.t p40) (.t p35), none, 16383⟩] true) (.seq (.seq (.region [⟨some p42, .bin .eql (.t p10) (.c (.int .u8 (.ofNat 3))), none, 0⟩, ⟨some p41, .mov (.t p42), none, 1⟩] false)
 (.cond (.t p41) .skip (.region [⟨some p43, .bin .eql (.t p10) (.c (.int .u8 (.ofNat 8))), none, 0⟩, ⟨some p41, .mov (.t p43), none, 1⟩] false)))
 (.cond (.t p41) (.region [⟨some p44, .mov (.t p0), none, 0⟩, ⟨some p45, .faddr 3 (.t p3), none, 0⟩, ⟨some p46, .load1 (.t p45), none, 2⟩, ⟨some p47, .faddr 5 (.t p3), none, 0⟩, ⟨some p48, .load1 (.t p47), none, 8⟩, ⟨some p49, .nilck (.t p44), none, 1⟩, ⟨some p50, .faddr 17 (.t p49), none, 33⟩, ⟨some p51, .iaddrA 32 1 (.t p50) (.t p46), none, 127⟩, ⟨none, .store 1 (.t p51) (.t p48), none, 255⟩] true) .skip)))))))))) }
theorem ok37 : cFn Tryd.prog 37 = some ef37 := by kernel_rfl
/-- (*delta.Coder).Read$1 -/
def ef42 : EFn := { id := 42, N := 20, res := [(p6, none)], code := (.seq (.region [⟨some p6, .mov (.c (.int .i64 (.ofNat 0))), none, 0⟩] false)
 (.seq (.region [⟨some p9, .load1 (.t p2), none, 0⟩, ⟨some p10, .call (.c (.fn 26 [] [])) [(.t p9)], none, 1⟩, ⟨none, .store 1 (.t p3) (.t p10), none, 3⟩] false)
 (.seq (.region [⟨some p12, .load1 (.t p2), none, 0⟩, ⟨some p13, .mov (.t p1), none, 0⟩, ⟨some p14, .conv .u64 (.t p13), none, 2⟩, ⟨some p15, .call (.c (.fn 43 [] [])) [(.t p12), (.t p14)], none, 7⟩, ⟨some p11, .mov (.t p15), none, 15⟩, ⟨some p16, .ext 0 (.t p11), none, 31⟩, ⟨some p17, .ext 1 (.t p11), none, 31⟩, ⟨some p7, .mov (.t p16), none, 63⟩, ⟨some p8, .mov (.t p17), none, 255⟩] false)
 (.seq (.region [⟨some p18, .mov (.t p7), none, 0⟩, ⟨some p19, .conv .i64 (.t p18), none, 1⟩, ⟨some p6, .mov (.t p19), none, 3⟩] false)
 .ret)))) }
theorem ok42 : cFn Tryd.prog 42 = some ef42 := by kernel_rfl
/-- (*bytes.Reader).Num -/
def ef43 : EFn := { id := 43, N := 11, res := [(p4, none), (p5, none)], code := (.seq (.region [⟨some p3, .box (.t p1), none, 0⟩, ⟨some p4, .mov (.c (.int .u64 (.ofNat 0))), none, 0⟩, ⟨some p5, .mov (.c (.int .i64 (.ofNat 0))), none, 2⟩] false)
 (.seq (.region [⟨some p6, .mov (.t p0), none, 0⟩, ⟨some p7, .mkfn 69 [] [(.t p3)], none, 0⟩, ⟨some p8, .call (.c (.fn 68 [] [])) [(.t p6), (.t p7)], none, 3⟩, ⟨some p9, .ext 0 (.t p8), none, 7⟩, ⟨some p10, .ext 1 (.t p8), none, 7⟩, ⟨some p4, .mov (.t p9), none, 31⟩, ⟨some p5, .mov (.t p10), none, 63⟩] false)
 .ret)) }
theorem ok43 : cFn Tryd.prog 43 = some ef43 := by kernel_rfl
/-- (*delta.Coder).Read$2 -/
def ef44 : EFn := { id := 44, N := 12, res := [(p3, none)], code := (.seq (.region [⟨some p3, .mov (.c (.int .i64 (.ofNat 0))), none, 0⟩] false)
 (.seq (.region [⟨some p7, .load1 (.t p1), none, 0⟩, ⟨some p8, .call (.c (.fn 45 [] [])) [(.t p7)], none, 1⟩, ⟨some p6, .mov (.t p8), none, 3⟩, ⟨some p9, .ext 0 (.t p6), none, 7⟩, ⟨some p10, .ext 1 (.t p6), none, 7⟩, ⟨some p4, .mov (.t p9), none, 15⟩, ⟨some p5, .mov (.t p10), none, 63⟩] false)
 (.seq (.region [⟨some p11, .mov (.t p4), none, 0⟩, ⟨some p3, .mov (.t p11), none, 1⟩] false)
 .ret))) }
theorem ok44 : cFn Tryd.prog 44 = some ef44 := by kernel_rfl
/-- (*bytes.Reader).Int -/
def ef45 : EFn := { id := 45, N := 14, res := [(p2, none), (p3, none)], code := (.seq (.region [⟨some p2, .mov (.c (.int .i64 (.ofNat 0))), none, 0⟩, ⟨some p3, .mov (.c (.int .i64 (.ofNat 0))), none, 1⟩] false)
 (.seq (.region [⟨some p7, .mov (.t p0), none, 0⟩, ⟨some p8, .call (.c (.fn 43 [] [])) [(.t p7), (.c (.int .u64 (.ofNat 18446744073709551615)))], none, 1⟩, ⟨some p6, .mov (.t p8), none, 3⟩, ⟨some p9, .ext 0 (.t p6), none, 7⟩, ⟨some p10, .ext 1 (.t p6), none, 7⟩, ⟨some p4, .mov (.t p9), none, 15⟩, ⟨some p5, .mov (.t p10), none, 63⟩] false)
 (.seq (.region [⟨some p11, .mov (.t p4), none, 0⟩, ⟨some p12, .call (.c (.fn 71 [] [])) [(.t p11)], none, 1⟩, ⟨some p13, .mov (.t p5), none, 0⟩, ⟨some p2, .mov (.t p12), none, 3⟩, ⟨some p3, .mov (.t p13), none, 15⟩] false)
 .ret))) }
theorem ok45 : cFn Tryd.prog 45 = some ef45 := by kernel_rfl
/-- (*delta.Coder).Read$3 -/
def ef46 : EFn := { id := 46, N := 5, res := [], code := (.region [⟨some p2, .load1 (.t p0), none, 0⟩, ⟨some p3, .load1 (.t p1), none, 0⟩, ⟨some p4, .call (.c (.fn 47 [] [])) [(.t p2), (.t p3), (.c (.int .i64 (.ofNat 20)))], none, 3⟩] false) }
theorem ok46 : cFn Tryd.prog 46 = some ef46 := by kernel_rfl
/-- (*bytes.Reader).Fail -/
def ef47 : EFn := { id := 47, N := 44, res := [(p6, none)], code := (.seq (.region [⟨some p6, .mov (.c (.int .i64 (.ofNat 0))), none, 0⟩] false)
 (.seq (.block 0 (.seq (.region [⟨some p8, .mov (.t p0), none, 0⟩, ⟨some p9, .eq false .nilP (.t p8) (.c .nilp), none, 1⟩, ⟨some p7, .mov (.t p9), none, 3⟩] false)
 (.cond (.t p7) (.seq (.region [⟨some p6, .mov (.c (.int .i64 (.ofNat 2))), none, 0⟩] false)
 .ret) (.seq (.region [⟨some p11, .mov (.t p0), none, 0⟩, ⟨some p12, .nilck (.t p11), none, 1⟩, ⟨some p13, .faddr 2 (.t p12), none, 3⟩, ⟨some p14, .load1 (.t p13), none, 7⟩, ⟨some p15, .bin .neq (.t p14) (.c (.int .i64 (.ofNat 0))), none, 15⟩, ⟨some p10, .mov (.t p15), none, 31⟩] false)
 (.cond (.t p10) (.seq (.region [⟨some p16, .mov (.t p0), none, 0⟩, ⟨some p17, .nilck (.t p16), none, 1⟩, ⟨some p18, .faddr 2 (.t p17), none, 3⟩, ⟨some p19, .load1 (.t p18), none, 7⟩, ⟨some p6, .mov (.t p19), none, 15⟩] false)
 .ret) (.seq (.region [⟨some p21, .mov (.t p1), none, 0⟩, ⟨some p22, .bin .lss (.t p21) (.c (.int .i64 (.ofNat 0))), none, 1⟩, ⟨some p23, .mov (.t p22), none, 3⟩, ⟨some p24, .mov (.t p1), some (p23, false), 7⟩, ⟨some p25, .mov (.t p0), some (p23, false), 7⟩, ⟨some p26, .nilck (.t p25), some (p23, false), 23⟩, ⟨some p27, .faddr 1 (.t p26), some (p23, false), 55⟩, ⟨some p28, .load1 (.t p27), some (p23, false), 119⟩, ⟨some p29, .bin .gtr (.t p24) (.t p28), some (p23, false), 255⟩, ⟨some p30, .pick (.t p23) (.c (.bool true)) (.t p29), none, 511⟩, ⟨some p31, .mov (.t p30), none, 1023⟩, ⟨some p32, .mov (.t p2), some (p31, false), 2047⟩, ⟨some p33, .bin .eql (.t p32) (.c (.int .i64 (.ofNat 0))), some (p31, false), 4095⟩, ⟨some p34, .pick (.t p31) (.c (.bool true)) (.t p33), none, 8191⟩, ⟨some p20, .mov (.t p34), none, 16383⟩] false)
 (.cond (.t p20) (.seq (.region [⟨some p6, .mov (.c (.int .i64 (.ofNat 1))), none, 0⟩] false)
 .ret) .skip)))))))
 (.seq (.region [⟨some p35, .mov (.t p0), none, 0⟩, ⟨some p36, .mov (.t p0), none, 0⟩, ⟨some p37, .mov (.t p1), none, 0⟩, ⟨some p38, .mov (.t p2), none, 0⟩, ⟨some p39, .nilck (.t p35), none, 5⟩, ⟨some p40, .faddr 1 (.t p39), none, 21⟩, ⟨none, .store 1 (.t p40) (.t p37), none, 53⟩, ⟨some p41, .nilck (.t p36), none, 127⟩, ⟨some p42, .faddr 2 (.t p41), none, 255⟩, ⟨none, .store 1 (.t p42) (.t p38), none, 511⟩] false)
 (.seq (.region [⟨some p43, .mov (.t p2), none, 0⟩, ⟨some p6, .mov (.t p43), none, 1⟩] false)
 .ret)))) }
theorem ok47 : cFn Tryd.prog 47 = some ef47 := by kernel_rfl
/-- (*delta.line).begin -/
def ef56 : EFn := { id := 56, N := 54, res := [], code := (.seq (.region [⟨some p2, .mov (.t p0), none, 0⟩, ⟨some p3, .mov (.t p0), none, 0⟩, ⟨some p4, .nilck (.t p3), none, 2⟩, ⟨some p5, .faddr 8 (.t p4), none, 6⟩, ⟨some p6, .load1 (.t p5), none, 14⟩, ⟨some p7, .mov (.t p0), none, 0⟩, ⟨some p8, .nilck (.t p7), none, 32⟩, ⟨some p9, .faddr 1 (.t p8), none, 96⟩, ⟨some p10, .faddr 2 (.t p9), none, 224⟩, ⟨some p11, .load1 (.t p10), none, 480⟩, ⟨some p12, .call (.t p6) [(.t p11), (.c (.int .i64 (.ofNat 5)))], none, 1022⟩, ⟨some p13, .nilck (.t p2), none, 2047⟩, ⟨some p14, .faddr 1 (.t p13), none, 4095⟩, ⟨some p15, .faddr 2 (.t p14), none, 8191⟩, ⟨none, .store 1 (.t p15) (.t p12), none, 16383⟩] true)
 (.region [⟨some p16, .mov (.t p0), none, 0⟩, ⟨some p17, .mov (.t p0), none, 0⟩, ⟨some p18, .nilck (.t p17), none, 2⟩, ⟨some p19, .faddr 0 (.t p18), none, 6⟩, ⟨some p20, .load1 (.t p19), none, 14⟩, ⟨some p21, .nilck (.t p20), none, 30⟩, ⟨some p22, .faddr 4 (.t p21), none, 62⟩, ⟨some p23, .load1 (.t p22), none, 126⟩, ⟨some p24, .mov (.t p0), none, 0⟩, ⟨some p25, .nilck (.t p24), none, 256⟩, ⟨some p26, .faddr 8 (.t p25), none, 768⟩, ⟨some p27, .load1 (.t p26), none, 1792⟩, ⟨some p28, .mov (.t p0), none, 0⟩, ⟨some p29, .nilck (.t p28), none, 4096⟩, ⟨some p30, .faddr 1 (.t p29), none, 12288⟩, ⟨some p31, .faddr 4 (.t p30), none, 28672⟩, ⟨some p32, .load1 (.t p31), none, 61440⟩, ⟨some p33, .mov (.t p0), none, 0⟩, ⟨some p34, .nilck (.t p33), none, 131072⟩, ⟨some p35, .faddr 0 (.t p34), none, 393216⟩, ⟨some p36, .load1 (.t p35), none, 917504⟩, ⟨some p37, .nilck (.t p36), none, 1966080⟩, ⟨some p38, .faddr 4 (.t p37), none, 4063232⟩, ⟨some p39, .load1 (.t p38), none, 8257536⟩, ⟨some p40, .bin .sub (.t p32) (.t p39), none, 16773120⟩, ⟨some p41, .mov (.t p0), none, 0⟩, ⟨some p42, .nilck (.t p41), none, 33554432⟩, ⟨some p43, .faddr 0 (.t p42), none, 100663296⟩, ⟨some p44, .load1 (.t p43), none, 234881024⟩, ⟨some p45, .nilck (.t p44), none, 503316480⟩, ⟨some p46, .faddr 4 (.t p45), none, 1040187392⟩, ⟨some p47, .load1 (.t p46), none, 2113929216⟩, ⟨some p48, .bin .sub (.c (.int .i64 (.ofNat 1099511627776))) (.t p47), none, 4261412864⟩, ⟨some p49, .call (.t p27) [(.t p40), (.t p48)], none, 8589934336⟩, ⟨some p50, .bin .add (.t p23) (.t p49), none, 17179869182⟩, ⟨some p51, .nilck (.t p16), none, 34359738367⟩, ⟨some p52, .faddr 1 (.t p51), none, 68719476735⟩, ⟨some p53, .faddr 4 (.t p52), none, 137438953471⟩, ⟨none, .store 1 (.t p53) (.t p50), none, 274877906943⟩] true)) }
theorem ok56 : cFn Tryd.prog 56 = some ef56 := by kernel_rfl
/-- (*delta.line).look -/
def ef57 : EFn := { id := 57, N := 44, res := [], code := (.seq (.region [⟨some p3, .mov (.t p0), none, 0⟩, ⟨some p4, .mov (.t p0), none, 0⟩, ⟨some p5, .nilck (.t p4), none, 2⟩, ⟨some p6, .faddr 0 (.t p5), none, 6⟩, ⟨some p7, .load1 (.t p6), none, 14⟩, ⟨some p8, .nilck (.t p7), none, 30⟩, ⟨some p9, .faddr 2 (.t p8), none, 62⟩, ⟨some p10, .load1 (.t p9), none, 126⟩, ⟨some p11, .call (.c (.fn 75 [] [])) [(.t p3), (.t p10)], none, 255⟩] false)
 (.seq (.region [⟨some p12, .mov (.t p0), none, 0⟩, ⟨some p13, .nilck (.t p12), none, 1⟩, ⟨some p14, .faddr 0 (.t p13), none, 3⟩, ⟨some p15, .load1 (.t p14), none, 7⟩, ⟨some p16, .mov (.t p0), none, 0⟩, ⟨some p17, .nilck (.t p16), none, 16⟩, ⟨some p18, .faddr 1 (.t p17), none, 48⟩, ⟨some p19, .faddr 1 (.t p18), none, 112⟩, ⟨some p20, .load1 (.t p19), none, 240⟩, ⟨some p21, .nilck (.t p15), none, 15⟩, ⟨some p22, .faddr 5 (.t p21), none, 527⟩, ⟨some p23, .iaddrA 6 1 (.t p22) (.t p20), none, 2047⟩, ⟨some p24, .load1 (.t p23), none, 4095⟩, ⟨some p2, .mov (.t p24), none, 8191⟩] true)
 (.region [⟨some p25, .mov (.t p0), none, 0⟩, ⟨some p26, .mov (.t p2), none, 0⟩, ⟨some p27, .mov (.t p0), none, 0⟩, ⟨some p28, .nilck (.t p27), none, 4⟩, ⟨some p29, .faddr 8 (.t p28), none, 12⟩, ⟨some p30, .load1 (.t p29), none, 28⟩, ⟨some p31, .mov (.t p2), none, 0⟩, ⟨some p32, .mov (.t p0), none, 0⟩, ⟨some p33, .nilck (.t p32), none, 128⟩, ⟨some p34, .faddr 1 (.t p33), none, 384⟩, ⟨some p35, .faddr 4 (.t p34), none, 896⟩, ⟨some p36, .load1 (.t p35), none, 1920⟩, ⟨some p37, .bin .sub (.t p31) (.t p36), none, 4032⟩, ⟨some p38, .mov (.t p2), none, 0⟩, ⟨some p39, .call (.t p30) [(.t p37), (.t p38)], none, 16380⟩, ⟨some p40, .bin .sub (.t p26) (.t p39), none, 32766⟩, ⟨some p41, .nilck (.t p25), none, 65535⟩, ⟨some p42, .faddr 1 (.t p41), none, 131071⟩, ⟨some p43, .faddr 4 (.t p42), none, 262143⟩, ⟨none, .store 1 (.t p43) (.t p40), none, 524287⟩] true))) }
theorem ok57 : cFn Tryd.prog 57 = some ef57 := by kernel_rfl
/-- (*delta.line).value -/
def ef58 : EFn := { id := 58, N := 43, res := [], code := (.seq (.region [⟨some p3, .mov (.t p0), none, 0⟩, ⟨some p4, .mov (.t p0), none, 0⟩, ⟨some p5, .nilck (.t p4), none, 2⟩, ⟨some p6, .faddr 0 (.t p5), none, 6⟩, ⟨some p7, .load1 (.t p6), none, 14⟩, ⟨some p8, .nilck (.t p7), none, 30⟩, ⟨some p9, .faddr 1 (.t p8), none, 62⟩, ⟨some p10, .load1 (.t p9), none, 126⟩, ⟨some p11, .call (.c (.fn 75 [] [])) [(.t p3), (.t p10)], none, 255⟩] false)
 (.seq (.region [⟨some p12, .mov (.t p0), none, 0⟩, ⟨some p13, .nilck (.t p12), none, 1⟩, ⟨some p14, .faddr 0 (.t p13), none, 3⟩, ⟨some p15, .load1 (.t p14), none, 7⟩, ⟨some p16, .mov (.t p0), none, 0⟩, ⟨some p17, .nilck (.t p16), none, 16⟩, ⟨some p18, .faddr 1 (.t p17), none, 48⟩, ⟨some p19, .faddr 3 (.t p18), none, 112⟩, ⟨some p20, .load1 (.t p19), none, 240⟩, ⟨some p21, .nilck (.t p15), none, 15⟩, ⟨some p22, .faddr 17 (.t p21), none, 527⟩, ⟨some p23, .iaddrA 32 1 (.t p22) (.t p20), none, 2047⟩, ⟨some p24, .load1 (.t p23), none, 4095⟩, ⟨some p2, .mov (.t p24), none, 8191⟩] true)
 (.region [⟨some p25, .mov (.t p0), none, 0⟩, ⟨some p26, .mov (.t p2), none, 0⟩, ⟨some p27, .mov (.t p0), none, 0⟩, ⟨some p28, .nilck (.t p27), none, 4⟩, ⟨some p29, .faddr 9 (.t p28), none, 12⟩, ⟨some p30, .load1 (.t p29), none, 28⟩, ⟨some p31, .mov (.t p0), none, 0⟩, ⟨some p32, .nilck (.t p31), none, 64⟩, ⟨some p33, .faddr 1 (.t p32), none, 192⟩, ⟨some p34, .faddr 5 (.t p33), none, 448⟩, ⟨some p35, .load1 (.t p34), none, 960⟩, ⟨some p36, .mov (.t p2), none, 0⟩, ⟨some p37, .bin .sub (.t p35) (.t p36), none, 4032⟩, ⟨some p38, .call (.t p30) [(.t p37)], none, 8188⟩, ⟨some p39, .bin .add (.t p26) (.t p38), none, 16382⟩, ⟨some p40, .nilck (.t p25), none, 32767⟩, ⟨some p41, .faddr 1 (.t p40), none, 65535⟩, ⟨some p42, .faddr 5 (.t p41), none, 131071⟩, ⟨none, .store 1 (.t p42) (.t p39), none, 262143⟩] true))) }
theorem ok58 : cFn Tryd.prog 58 = some ef58 := by kernel_rfl
/-- (*delta.line).stripe -/
def ef59 : EFn := { id := 59, N := 11, res := [], code := (.region [⟨some p2, .mov (.t p0), none, 0⟩, ⟨some p3, .mov (.t p0), none, 0⟩, ⟨some p4, .nilck (.t p3), none, 2⟩, ⟨some p5, .faddr 0 (.t p4), none, 6⟩, ⟨some p6, .load1 (.t p5), none, 14⟩, ⟨some p7, .nilck (.t p6), none, 30⟩, ⟨some p8, .faddr 2 (.t p7), none, 62⟩, ⟨some p9, .load1 (.t p8), none, 126⟩, ⟨some p10, .call (.c (.fn 75 [] [])) [(.t p2), (.t p9)], none, 255⟩] false) }
theorem ok59 : cFn Tryd.prog 59 = some ef59 := by kernel_rfl
/-- (*delta.line).bump -/
def ef60 : EFn := { id := 60, N := 49, res := [], code := (.seq (.region [⟨some p3, .mov (.t p0), none, 0⟩, ⟨some p4, .nilck (.t p3), none, 1⟩, ⟨some p5, .faddr 8 (.t p4), none, 3⟩, ⟨some p6, .load1 (.t p5), none, 7⟩, ⟨some p7, .mov (.t p0), none, 0⟩, ⟨some p8, .nilck (.t p7), none, 16⟩, ⟨some p9, .faddr 1 (.t p8), none, 48⟩, ⟨some p10, .faddr 4 (.t p9), none, 112⟩, ⟨some p11, .load1 (.t p10), none, 240⟩, ⟨some p12, .mov (.t p0), none, 0⟩, ⟨some p13, .nilck (.t p12), none, 512⟩, ⟨some p14, .faddr 0 (.t p13), none, 1536⟩, ⟨some p15, .load1 (.t p14), none, 3584⟩, ⟨some p16, .nilck (.t p15), none, 7680⟩, ⟨some p17, .faddr 4 (.t p16), none, 15872⟩, ⟨some p18, .load1 (.t p17), none, 32256⟩, ⟨some p19, .bin .sub (.t p11) (.t p18), none, 65520⟩, ⟨some p20, .mov (.t p0), none, 0⟩, ⟨some p21, .nilck (.t p20), none, 131072⟩, ⟨some p22, .faddr 0 (.t p21), none, 393216⟩, ⟨some p23, .load1 (.t p22), none, 917504⟩, ⟨some p24, .nilck (.t p23), none, 1966080⟩, ⟨some p25, .faddr 4 (.t p24), none, 4063232⟩, ⟨some p26, .load1 (.t p25), none, 8257536⟩, ⟨some p27, .bin .sub (.c (.int .i64 (.ofNat 1099511627776))) (.t p26), none, 16646144⟩, ⟨some p28, .call (.t p6) [(.t p19), (.t p27)], none, 33554431⟩, ⟨some p2, .mov (.t p28), none, 67108863⟩] true)
 (.seq (.seq (.region [⟨some p29, .mov (.t p2), none, 0⟩, ⟨some p30, .bin .eql (.t p29) (.c (.int .i64 (.ofNat 0))), none, 1⟩] false)
 (.cond (.t p30) (.region [⟨some p31, .mov (.t p0), none, 0⟩, ⟨some p32, .nilck (.t p31), none, 1⟩, ⟨some p33, .faddr 10 (.t p32), none, 3⟩, ⟨some p34, .load1 (.t p33), none, 7⟩, ⟨some p35, .call (.t p34) [], none, 15⟩] false) .skip))
 (.region [⟨some p36, .mov (.t p0), none, 0⟩, ⟨some p37, .mov (.t p0), none, 0⟩, ⟨some p38, .nilck (.t p37), none, 2⟩, ⟨some p39, .faddr 0 (.t p38), none, 6⟩, ⟨some p40, .load1 (.t p39), none, 14⟩, ⟨some p41, .nilck (.t p40), none, 30⟩, ⟨some p42, .faddr 4 (.t p41), none, 62⟩, ⟨some p43, .load1 (.t p42), none, 126⟩, ⟨some p44, .mov (.t p2), none, 0⟩, ⟨some p45, .bin .add (.t p43) (.t p44), none, 510⟩, ⟨some p46, .nilck (.t p36), none, 1023⟩, ⟨some p47, .faddr 1 (.t p46), none, 2047⟩, ⟨some p48, .faddr 4 (.t p47), none, 4095⟩, ⟨none, .store 1 (.t p48) (.t p45), none, 8191⟩] false))) }
theorem ok60 : cFn Tryd.prog 60 = some ef60 := by kernel_rfl
/-- (*delta.line).commit -/
def ef61 : EFn := { id := 61, N := 49, res := [], code := (.seq (.region [⟨some p3, .mov (.t p0), none, 0⟩, ⟨some p4, .nilck (.t p3), none, 1⟩, ⟨some p5, .faddr 1 (.t p4), none, 3⟩, ⟨some p6, .faddr 4 (.t p5), none, 7⟩, ⟨some p7, .load1 (.t p6), none, 15⟩, ⟨some p8, .min (.t p7) (.c (.int .i64 (.ofNat 1))), none, 31⟩, ⟨some p2, .mov (.t p8), none, 63⟩] false)
 (.seq (.seq (.region [⟨some p9, .mov (.t p0), none, 0⟩, ⟨some p10, .nilck (.t p9), none, 1⟩, ⟨some p11, .faddr 8 (.t p10), none, 3⟩, ⟨some p12, .load1 (.t p11), none, 7⟩, ⟨some p13, .mov (.t p2), none, 0⟩, ⟨some p14, .call (.t p12) [(.t p13), (.c (.int .i64 (.ofNat 1)))], none, 31⟩, ⟨some p2, .mov (.t p14), none, 63⟩] false)
 (.seq (.region [⟨some p15, .mov (.t p2), none, 0⟩, ⟨some p16, .bin .eql (.t p15) (.c (.int .i64 (.ofNat 0))), none, 1⟩] false)
 (.cond (.t p16) (.seq (.region [⟨some p17, .mov (.t p0), none, 0⟩, ⟨some p18, .nilck (.t p17), none, 1⟩, ⟨some p19, .faddr 1 (.t p18), none, 3⟩, ⟨some p20, .faddr 4 (.t p19), none, 7⟩, ⟨none, .store 1 (.t p20) (.c (.int .i64 (.ofNat 0))), none, 15⟩] false)
 .ret) .skip)))
 (.seq (.region [⟨some p21, .mov (.t p0), none, 0⟩, ⟨some p22, .mov (.t p0), none, 0⟩, ⟨some p23, .nilck (.t p22), none, 2⟩, ⟨some p24, .faddr 0 (.t p23), none, 6⟩, ⟨some p25, .load1 (.t p24), none, 14⟩, ⟨some p26, .mov (.t p0), none, 0⟩, ⟨some p27, .nilck (.t p26), none, 32⟩, ⟨some p28, .faddr 1 (.t p27), none, 96⟩, ⟨some p29, .faddr 1 (.t p28), none, 224⟩, ⟨some p30, .load1 (.t p29), none, 480⟩, ⟨some p31, .nilck (.t p25), none, 30⟩, ⟨some p32, .faddr 11 (.t p31), none, 1054⟩, ⟨some p33, .iaddrA 6 1 (.t p32) (.t p30), none, 4094⟩, ⟨some p34, .load1 (.t p33), none, 8190⟩, ⟨some p35, .nilck (.t p21), none, 16383⟩, ⟨some p36, .faddr 1 (.t p35), none, 32767⟩, ⟨some p37, .faddr 4 (.t p36), none, 65535⟩, ⟨none, .store 1 (.t p37) (.t p34), none, 131071⟩] true)
 (.seq (.region [⟨some p38, .mov (.t p0), none, 0⟩, ⟨some p39, .nilck (.t p38), none, 1⟩, ⟨some p40, .faddr 1 (.t p39), none, 3⟩, ⟨some p41, .faddr 4 (.t p40), none, 7⟩, ⟨some p42, .load1 (.t p41), none, 15⟩, ⟨some p43, .bin .eql (.t p42) (.c (.int .i64 (.ofNat 0))), none, 31⟩] false)
 (.cond (.t p43) (.region [⟨some p44, .mov (.t p0), none, 0⟩, ⟨some p45, .nilck (.t p44), none, 1⟩, ⟨some p46, .faddr 10 (.t p45), none, 3⟩, ⟨some p47, .load1 (.t p46), none, 7⟩, ⟨some p48, .call (.t p47) [], none, 15⟩] false) .skip))))) }
theorem ok61 : cFn Tryd.prog 61 = some ef61 := by kernel_rfl
/-- (*delta.line).abort -/
def ef62 : EFn := { id := 62, N := 28, res := [], code := (.seq (.region [⟨some p2, .mov (.t p0), none, 0⟩, ⟨some p3, .mov (.t p0), none, 0⟩, ⟨some p4, .nilck (.t p3), none, 2⟩, ⟨some p5, .faddr 8 (.t p4), none, 6⟩, ⟨some p6, .load1 (.t p5), none, 14⟩, ⟨some p7, .mov (.t p0), none, 0⟩, ⟨some p8, .nilck (.t p7), none, 32⟩, ⟨some p9, .faddr 1 (.t p8), none, 96⟩, ⟨some p10, .faddr 6 (.t p9), none, 224⟩, ⟨some p11, .load1 (.t p10), none, 480⟩, ⟨some p12, .conv .i64 (.t p11), none, 992⟩, ⟨some p13, .bin .sub (.t p12) (.c (.int .i64 (.ofNat 1))), none, 2016⟩, ⟨some p14, .call (.t p6) [(.t p13), (.c (.int .i64 (.ofNat 5)))], none, 4094⟩, ⟨some p15, .bin .add (.t p14) (.c (.int .i64 (.ofNat 1))), none, 8190⟩, ⟨some p16, .conv .u8 (.t p15), none, 16382⟩, ⟨some p17, .nilck (.t p2), none, 32767⟩, ⟨some p18, .faddr 1 (.t p17), none, 65535⟩, ⟨some p19, .faddr 6 (.t p18), none, 131071⟩, ⟨none, .store 1 (.t p19) (.t p16), none, 262143⟩] true)
 (.seq (.region [⟨some p20, .mov (.t p0), none, 0⟩, ⟨some p21, .nilck (.t p20), none, 1⟩, ⟨some p22, .faddr 1 (.t p21), none, 3⟩, ⟨some p23, .faddr 6 (.t p22), none, 7⟩, ⟨some p24, .load1 (.t p23), none, 15⟩, ⟨some p25, .bin .neq (.t p24) (.c (.int .u8 (.ofNat 6))), none, 31⟩] false)
 (.cond (.t p25) (.region [⟨some p26, .mov (.t p0), none, 0⟩, ⟨some p27, .call (.c (.fn 59 [] [])) [(.t p26)], none, 1⟩] false) .skip))) }
theorem ok62 : cFn Tryd.prog 62 = some ef62 := by kernel_rfl
/-- (*delta.line).none -/
def ef63 : EFn := { id := 63, N := 2, res := [], code := .skip }
theorem ok63 : cFn Tryd.prog 63 = some ef63 := by kernel_rfl
/-- bytes.read[uint64] -/
def ef68 : EFn := { id := 68, N := 55, res := [(p4, none), (p5, none)], code := (.seq (.region [⟨some p4, .mov (.c (.int .u64 (.ofNat 0))), none, 0⟩, ⟨some p5, .mov (.c (.int .i64 (.ofNat 0))), none, 1⟩] false)
 (.seq (.block 0 (.seq (.region [⟨some p9, .mov (.t p0), none, 0⟩, ⟨some p10, .eq false .nilP (.t p9) (.c .nilp), none, 1⟩, ⟨some p8, .mov (.t p10), none, 3⟩] false)
 (.cond (.t p8) (.seq (.region [⟨some p11, .mov (.t p4), none, 0⟩, ⟨some p4, .mov (.t p11), none, 1⟩, ⟨some p5, .mov (.c (.int .i64 (.ofNat 2))), none, 3⟩] false)
 .ret) (.seq (.region [⟨some p13, .mov (.t p0), none, 0⟩, ⟨some p14, .nilck (.t p13), none, 1⟩, ⟨some p15, .faddr 2 (.t p14), none, 3⟩, ⟨some p16, .load1 (.t p15), none, 7⟩, ⟨some p17, .bin .neq (.t p16) (.c (.int .i64 (.ofNat 0))), none, 15⟩, ⟨some p12, .mov (.t p17), none, 31⟩] false)
 (.cond (.t p12) (.seq (.region [⟨some p18, .mov (.t p4), none, 0⟩, ⟨some p19, .mov (.t p0), none, 0⟩, ⟨some p20, .nilck (.t p19), none, 2⟩, ⟨some p21, .faddr 2 (.t p20), none, 6⟩, ⟨some p22, .load1 (.t p21), none, 14⟩, ⟨some p4, .mov (.t p18), none, 1⟩, ⟨some p5, .mov (.t p22), none, 63⟩] true)
 .ret) .skip)))))
 (.seq (.region [⟨some p24, .mov (.t p1), none, 0⟩, ⟨some p25, .mov (.t p0), none, 0⟩, ⟨some p26, .nilck (.t p25), none, 2⟩, ⟨some p27, .faddr 0 (.t p26), none, 6⟩, ⟨some p28, .load1 (.t p27), none, 14⟩, ⟨some p29, .mov (.t p0), none, 0⟩, ⟨some p30, .nilck (.t p29), none, 32⟩, ⟨some p31, .faddr 1 (.t p30), none, 96⟩, ⟨some p32, .load1 (.t p31), none, 224⟩, ⟨some p33, .slcS (.t p28) (some (.t p32)) none, none, 510⟩, ⟨some p34, .call (.t p24) [(.t p33)], none, 1023⟩, ⟨some p23, .mov (.t p34), none, 2047⟩, ⟨some p35, .ext 0 (.t p23), none, 4095⟩, ⟨some p36, .ext 1 (.t p23), none, 4095⟩, ⟨some p37, .ext 2 (.t p23), none, 4095⟩, ⟨some p6, .mov (.t p35), none, 8191⟩, ⟨some p7, .mov (.t p36), none, 49151⟩, ⟨some p5, .mov (.t p37), none, 131071⟩] true)
 (.seq (.seq (.region [⟨some p38, .mov (.t p5), none, 0⟩, ⟨some p39, .bin .neq (.t p38) (.c (.int .i64 (.ofNat 0))), none, 1⟩] false)
 (.cond (.t p39) (.seq (.region [⟨some p40, .mov (.t p0), none, 0⟩, ⟨some p41, .mov (.t p5), none, 0⟩, ⟨some p42, .nilck (.t p40), none, 3⟩, ⟨some p43, .faddr 2 (.t p42), none, 7⟩, ⟨none, .store 1 (.t p43) (.t p41), none, 15⟩] false)
 (.seq (.region [⟨some p44, .mov (.t p4), none, 0⟩, ⟨some p45, .mov (.t p5), none, 0⟩, ⟨some p4, .mov (.t p44), none, 1⟩, ⟨some p5, .mov (.t p45), none, 7⟩] false)
 .ret)) .skip))
 (.seq (.region [⟨some p46, .mov (.t p0), none, 0⟩, ⟨some p47, .nilck (.t p46), none, 1⟩, ⟨some p48, .faddr 1 (.t p47), none, 3⟩, ⟨some p49, .load1 (.t p48), none, 7⟩, ⟨some p50, .mov (.t p7), none, 0⟩, ⟨some p51, .bin .add (.t p49) (.t p50), none, 31⟩, ⟨some p52, .nilck (.t p46), none, 63⟩, ⟨some p53, .faddr 1 (.t p52), none, 127⟩, ⟨none, .store 1 (.t p53) (.t p51), none, 255⟩] false)
 (.seq (.region [⟨some p54, .mov (.t p6), none, 0⟩, ⟨some p4, .mov (.t p54), none, 1⟩, ⟨some p5, .mov (.c (.int .i64 (.ofNat 0))), none, 3⟩] false)
 .ret)))))) }
theorem ok68 : cFn Tryd.prog 68 = some ef68 := by kernel_rfl
/-- (*bytes.Reader).Num$1 -/
def ef69 : EFn := { id := 69, N := 25, res := [(p3, none), (p4, none), (p5, none)], code := (.seq (.region [⟨some p3, .mov (.c (.int .u64 (.ofNat 0))), none, 0⟩, ⟨some p4, .mov (.c (.int .i64 (.ofNat 0))), none, 1⟩, ⟨some p5, .mov (.c (.int .i64 (.ofNat 0))), none, 3⟩] false)
 (.seq (.region [⟨some p10, .mov (.t p0), none, 0⟩, ⟨some p11, .call (.c (.fn 70 [] [])) [(.t p10)], none, 1⟩, ⟨some p9, .mov (.t p11), none, 3⟩, ⟨some p12, .ext 0 (.t p9), none, 7⟩, ⟨some p13, .ext 1 (.t p9), none, 7⟩, ⟨some p14, .ext 2 (.t p9), none, 7⟩, ⟨some p6, .mov (.t p12), none, 15⟩, ⟨some p7, .mov (.t p13), none, 95⟩, ⟨some p8, .mov (.t p14), none, 255⟩] false)
 (.seq (.seq (.region [⟨some p15, .mov (.t p8), none, 0⟩, ⟨some p16, .bin .eql (.t p15) (.c (.int .i64 (.ofNat 0))), none, 1⟩, ⟨some p17, .mov (.t p16), none, 3⟩, ⟨some p18, .mov (.t p6), some (p17, true), 7⟩, ⟨some p19, .load1 (.t p1), some (p17, true), 7⟩, ⟨some p20, .bin .gtr (.t p18) (.t p19), some (p17, true), 31⟩, ⟨some p21, .pick (.t p17) (.t p20) (.c (.bool false)), none, 63⟩] false)
 (.cond (.t p21) (.region [⟨some p8, .mov (.c (.int .i64 (.ofNat 20))), none, 0⟩] false) .skip))
 (.seq (.region [⟨some p22, .mov (.t p6), none, 0⟩, ⟨some p23, .mov (.t p7), none, 0⟩, ⟨some p24, .mov (.t p8), none, 0⟩, ⟨some p3, .mov (.t p22), none, 1⟩, ⟨some p4, .mov (.t p23), none, 11⟩, ⟨some p5, .mov (.t p24), none, 31⟩] false)
 .ret)))) }
theorem ok69 : cFn Tryd.prog 69 = some ef69 := by kernel_rfl
/-- varint.Get -/
def ef70 : EFn := { id := 70, N := 52, res := [(p2, none), (p3, none), (p4, none)], code := (.seq (.region [⟨some p2, .mov (.c (.int .u64 (.ofNat 0))), none, 0⟩, ⟨some p3, .mov (.c (.int .i64 (.ofNat 0))), none, 1⟩, ⟨some p4, .mov (.c (.int .i64 (.ofNat 0))), none, 3⟩] false)
 (.seq (.seq (.region [⟨some p6, .mov (.c (.int .i64 (.ofNat 0))), none, 0⟩] false)
 (.block 0 (.loop (.seq (.region [⟨some p7, .bin .lss (.t p6) (.c (.int .i64 (.ofNat 10))), none, 0⟩] false)
 (.seq (.cond (.t p7) .skip (.exit 0))
 (.seq (.block 1 (.seq (.region [⟨some p8, .mov (.t p6), none, 0⟩, ⟨some p5, .mov (.t p8), none, 1⟩] false)
 (.seq (.block 2 (.seq (.region [⟨some p10, .mov (.t p5), none, 0⟩, ⟨some p11, .mov (.t p0), none, 0⟩, ⟨some p12, .len true (.t p11), none, 2⟩, ⟨some p13, .bin .eql (.t p10) (.t p12), none, 7⟩, ⟨some p9, .mov (.t p13), none, 15⟩] false)
 (.cond (.t p9) (.seq (.region [⟨some p2, .mov (.c (.int .u64 (.ofNat 0))), none, 0⟩, ⟨some p3, .mov (.c (.int .i64 (.ofNat 0))), none, 1⟩, ⟨some p4, .mov (.c (.int .i64 (.ofNat 8))), none, 3⟩] false)
 .ret) (.seq (.region [⟨some p15, .mov (.t p5), none, 0⟩, ⟨some p16, .bin .eql (.t p15) (.c (.int .i64 (.ofNat 9))), none, 1⟩, ⟨some p17, .mov (.t p16), none, 3⟩, ⟨some p18, .mov (.t p0), some (p17, true), 7⟩, ⟨some p19, .mov (.t p5), some (p17, true), 7⟩, ⟨some p20, .idxS (.t p18) (.t p19), some (p17, true), 31⟩, ⟨some p21, .bin .gtr (.t p20) (.c (.int .u8 (.ofNat 1))), some (p17, true), 63⟩, ⟨some p22, .pick (.t p17) (.t p21) (.c (.bool false)), none, 127⟩, ⟨some p14, .mov (.t p22), none, 255⟩] false)
 (.cond (.t p14) (.seq (.region [⟨some p2, .mov (.c (.int .u64 (.ofNat 0))), none, 0⟩, ⟨some p3, .mov (.c (.int .i64 (.ofNat 0))), none, 1⟩, ⟨some p4, .mov (.c (.int .i64 (.ofNat 20))), none, 3⟩] false)
 .ret) .skip)))))
 (.seq (.region [⟨some p23, .mov (.t p2), none, 0⟩, ⟨some p24, .mov (.t p0), none, 0⟩, ⟨some p25, .mov (.t p5), none, 0⟩, ⟨some p26, .idxS (.t p24) (.t p25), none, 6⟩, ⟨some p27, .bin .andNot (.t p26) (.c (.int .u8 (.ofNat 128))), none, 14⟩, ⟨some p28, .conv .u64 (.t p27), none, 30⟩, ⟨some p29, .mov (.t p5), none, 0⟩, ⟨some p30, .bin .mul (.c (.int .i64 (.ofNat 7))) (.t p29), none, 64⟩, ⟨some p31, .bin .shl (.t p28) (.t p30), none, 254⟩, ⟨some p32, .bin .or (.t p23) (.t p31), none, 511⟩, ⟨some p2, .mov (.t p32), none, 1023⟩] false)
 (.seq (.block 3 (.seq (.region [⟨some p34, .mov (.t p0), none, 0⟩, ⟨some p35, .mov (.t p5), none, 0⟩, ⟨some p36, .idxS (.t p34) (.t p35), none, 3⟩, ⟨some p37, .bin .and (.t p36) (.c (.int .u8 (.ofNat 128))), none, 7⟩, ⟨some p38, .bin .neq (.t p37) (.c (.int .u8 (.ofNat 0))), none, 15⟩, ⟨some p33, .mov (.t p38), none, 31⟩] false)
 (.cond (.t p33) (.exit 1) (.seq (.region [⟨some p40, .mov (.t p5), none, 0⟩, ⟨some p41, .bin .gtr (.t p40) (.c (.int .i64 (.ofNat 0))), none, 1⟩, ⟨some p42, .mov (.t p41), none, 3⟩, ⟨some p43, .mov (.t p0), some (p42, true), 7⟩, ⟨some p44, .mov (.t p5), some (p42, true), 7⟩, ⟨some p45, .idxS (.t p43) (.t p44), some (p42, true), 31⟩, ⟨some p46, .bin .eql (.t p45) (.c (.int .u8 (.ofNat 0))), some (p42, true), 63⟩, ⟨some p47, .pick (.t p42) (.t p46) (.c (.bool false)), none, 127⟩, ⟨some p39, .mov (.t p47), none, 255⟩] false)
 (.cond (.t p39) (.seq (.region [⟨some p2, .mov (.c (.int .u64 (.ofNat 0))), none, 0⟩, ⟨some p3, .mov (.c (.int .i64 (.ofNat 0))), none, 1⟩, ⟨some p4, .mov (.c (.int .i64 (.ofNat 11))), none, 3⟩] false)
 .ret) .skip)))))
 (.seq (.region [⟨some p48, .mov (.t p2), none, 0⟩, ⟨some p49, .mov (.t p5), none, 0⟩, ⟨some p50, .bin .add (.t p49) (.c (.int .i64 (.ofNat 1))), none, 2⟩, ⟨some p2, .mov (.t p48), none, 1⟩, ⟨some p3, .mov (.t p50), none, 15⟩, ⟨some p4, .mov (.c (.int .i64 (.ofNat 0))), none, 31⟩] false)
 .ret))))))
 (.region [⟨some p51, .bin .add (.t p6) (.c (.int .i64 (.ofNat 1))), none, 0⟩, ⟨some p6, .mov (.t p51), none, 1⟩] false)))))))
 (.seq (.region [⟨some p2, .mov (.c (.int .u64 (.ofNat 0))), none, 0⟩, ⟨some p3, .mov (.c (.int .i64 (.ofNat 0))), none, 1⟩, ⟨some p4, .mov (.c (.int .i64 (.ofNat 20))), none, 3⟩] false)
 .ret))) }
theorem ok70 : cFn Tryd.prog 70 = some ef70 := by kernel_rfl
/-- varint.Zag -/
def ef71 : EFn := { id := 71, N := 11, res := [(p2, none)], code := (.seq (.region [⟨some p2, .mov (.c (.int .i64 (.ofNat 0))), none, 0⟩] false)
 (.seq (.region [⟨some p3, .mov (.t p0), none, 0⟩, ⟨some p4, .bin .shr (.t p3) (.c (.int .u64 (.ofNat 1))), none, 1⟩, ⟨some p5, .conv .i64 (.t p4), none, 3⟩, ⟨some p6, .mov (.t p0), none, 0⟩, ⟨some p7, .bin .and (.t p6) (.c (.int .u64 (.ofNat 1))), none, 8⟩, ⟨some p8, .conv .i64 (.t p7), none, 24⟩, ⟨some p9, .un .neg (.t p8), none, 56⟩, ⟨some p10, .bin .xor (.t p5) (.t p9), none, 127⟩, ⟨some p2, .mov (.t p10), none, 255⟩] false)
 .ret)) }
theorem ok71 : cFn Tryd.prog 71 = some ef71 := by kernel_rfl
/-- (*delta.line).at -/
def ef75 : EFn := { id := 75, N := 20, res := [], code := (.region [⟨some p4, .mov (.t p0), none, 0⟩, ⟨some p5, .mov (.t p0), none, 0⟩, ⟨some p6, .nilck (.t p5), none, 2⟩, ⟨some p7, .faddr 8 (.t p6), none, 6⟩, ⟨some p8, .load1 (.t p7), none, 14⟩, ⟨some p9, .mov (.t p0), none, 0⟩, ⟨some p10, .nilck (.t p9), none, 32⟩, ⟨some p11, .faddr 1 (.t p10), none, 96⟩, ⟨some p12, .faddr 3 (.t p11), none, 224⟩, ⟨some p13, .load1 (.t p12), none, 480⟩, ⟨some p14, .mov (.t p1), none, 0⟩, ⟨some p15, .bin .sub (.t p14) (.c (.int .i64 (.ofNat 1))), none, 1024⟩, ⟨some p16, .call (.t p8) [(.t p13), (.t p15)], none, 4094⟩, ⟨some p17, .nilck (.t p4), none, 8191⟩, ⟨some p18, .faddr 1 (.t p17), none, 16383⟩, ⟨some p19, .faddr 3 (.t p18), none, 32767⟩, ⟨none, .store 1 (.t p19) (.t p16), none, 65535⟩] true) }
theorem ok75 : cFn Tryd.prog 75 = some ef75 := by kernel_rfl
noncomputable def ft : Tri EFn := mkFT [ef7, ef9, ef10, ef11, ef12, ef13, ef16, ef19, ef20, ef22, ef24, ef26, ef29, ef30, ef31, ef32, ef33, ef34, ef35, ef36, ef37, ef42, ef43, ef44, ef45, ef46, ef47, ef56, ef57, ef58, ef59, ef60, ef61, ef62, ef63, ef68, ef69, ef70, ef71, ef75]
theorem ftok : FTok Tryd.prog ft := FTok.cons ok7 (FTok.cons ok9 (FTok.cons ok10 (FTok.cons ok11 (FTok.cons ok12 (FTok.cons ok13 (FTok.cons ok16 (FTok.cons ok19 (FTok.cons ok20 (FTok.cons ok22 (FTok.cons ok24 (FTok.cons ok26 (FTok.cons ok29 (FTok.cons ok30 (FTok.cons ok31 (FTok.cons ok32 (FTok.cons ok33 (FTok.cons ok34 (FTok.cons ok35 (FTok.cons ok36 (FTok.cons ok37 (FTok.cons ok42 (FTok.cons ok43 (FTok.cons ok44 (FTok.cons ok45 (FTok.cons ok46 (FTok.cons ok47 (FTok.cons ok56 (FTok.cons ok57 (FTok.cons ok58 (FTok.cons ok59 (FTok.cons ok60 (FTok.cons ok61 (FTok.cons ok62 (FTok.cons ok63 (FTok.cons ok68 (FTok.cons ok69 (FTok.cons ok70 (FTok.cons ok71 (FTok.cons ok75 (FTok.nil _))))))))))))))))))))))))))))))))))))))))
end Go.Proofs.YtokkafiphchejaaDoor.Rk
