/-
  The functions as they are reckoned: printed by tools/gen_rk.py out of the program's own form; each is held against it.
-/
import Derived.Test.YtjckgagkkknmnaaDoorRtp
import Derived.Test.YtjckgagkkknmnaaDoorProg
namespace Go.Proofs.YtjckgagkkknmnaaDoor.Rk
set_option linter.unusedVariables false
open Go
set_option maxRecDepth 100000
set_option maxHeartbeats 4000000

def p0 : Pt := .e
def p1 : Pt := .l (.e)
def p2 : Pt := .r (.e)
def p3 : Pt := .l (.l (.e))
def p4 : Pt := .r (.l (.e))
def p5 : Pt := .l (.r (.e))
def p6 : Pt := .r (.r (.e))
def p7 : Pt := .l (.l (.l (.e)))
def p8 : Pt := .r (.l (.l (.e)))
def p9 : Pt := .l (.r (.l (.e)))
def p10 : Pt := .r (.r (.l (.e)))
def p11 : Pt := .l (.l (.r (.e)))
def p12 : Pt := .r (.l (.r (.e)))
def p13 : Pt := .l (.r (.r (.e)))
def p14 : Pt := .r (.r (.r (.e)))
def p15 : Pt := .l (.l (.l (.l (.e))))
def p16 : Pt := .r (.l (.l (.l (.e))))
def p17 : Pt := .l (.r (.l (.l (.e))))
def p18 : Pt := .r (.r (.l (.l (.e))))
def p19 : Pt := .l (.l (.r (.l (.e))))
def p20 : Pt := .r (.l (.r (.l (.e))))
def p21 : Pt := .l (.r (.r (.l (.e))))
def p22 : Pt := .r (.r (.r (.l (.e))))
def p23 : Pt := .l (.l (.l (.r (.e))))
def p24 : Pt := .r (.l (.l (.r (.e))))
def p25 : Pt := .l (.r (.l (.r (.e))))
def p26 : Pt := .r (.r (.l (.r (.e))))
def p27 : Pt := .l (.l (.r (.r (.e))))
def p28 : Pt := .r (.l (.r (.r (.e))))
def p29 : Pt := .l (.r (.r (.r (.e))))
def p30 : Pt := .r (.r (.r (.r (.e))))
def p31 : Pt := .l (.l (.l (.l (.l (.e)))))
def p32 : Pt := .r (.l (.l (.l (.l (.e)))))
def p33 : Pt := .l (.r (.l (.l (.l (.e)))))
def p34 : Pt := .r (.r (.l (.l (.l (.e)))))
def p35 : Pt := .l (.l (.r (.l (.l (.e)))))
def p36 : Pt := .r (.l (.r (.l (.l (.e)))))
def p37 : Pt := .l (.r (.r (.l (.l (.e)))))
def p38 : Pt := .r (.r (.r (.l (.l (.e)))))
def p39 : Pt := .l (.l (.l (.r (.l (.e)))))
def p40 : Pt := .r (.l (.l (.r (.l (.e)))))
def p41 : Pt := .l (.r (.l (.r (.l (.e)))))
def p42 : Pt := .r (.r (.l (.r (.l (.e)))))
def p43 : Pt := .l (.l (.r (.r (.l (.e)))))
def p44 : Pt := .r (.l (.r (.r (.l (.e)))))
def p45 : Pt := .l (.r (.r (.r (.l (.e)))))
def p46 : Pt := .r (.r (.r (.r (.l (.e)))))
def p47 : Pt := .l (.l (.l (.l (.r (.e)))))
def p48 : Pt := .r (.l (.l (.l (.r (.e)))))
def p49 : Pt := .l (.r (.l (.l (.r (.e)))))
def p50 : Pt := .r (.r (.l (.l (.r (.e)))))
def p51 : Pt := .l (.l (.r (.l (.r (.e)))))
def p52 : Pt := .r (.l (.r (.l (.r (.e)))))
def p53 : Pt := .l (.r (.r (.l (.r (.e)))))
def p54 : Pt := .r (.r (.r (.l (.r (.e)))))
def p55 : Pt := .l (.l (.l (.r (.r (.e)))))
def p56 : Pt := .r (.l (.l (.r (.r (.e)))))
def p57 : Pt := .l (.r (.l (.r (.r (.e)))))
def p58 : Pt := .r (.r (.l (.r (.r (.e)))))
def p59 : Pt := .l (.l (.r (.r (.r (.e)))))
def p60 : Pt := .r (.l (.r (.r (.r (.e)))))
def p61 : Pt := .l (.r (.r (.r (.r (.e)))))
def p62 : Pt := .r (.r (.r (.r (.r (.e)))))
def p63 : Pt := .l (.l (.l (.l (.l (.l (.e))))))
def p64 : Pt := .r (.l (.l (.l (.l (.l (.e))))))
def p65 : Pt := .l (.r (.l (.l (.l (.l (.e))))))
def p66 : Pt := .r (.r (.l (.l (.l (.l (.e))))))
def p67 : Pt := .l (.l (.r (.l (.l (.l (.e))))))
def p68 : Pt := .r (.l (.r (.l (.l (.l (.e))))))
def p69 : Pt := .l (.r (.r (.l (.l (.l (.e))))))
def p70 : Pt := .r (.r (.r (.l (.l (.l (.e))))))
def p71 : Pt := .l (.l (.l (.r (.l (.l (.e))))))
def p72 : Pt := .r (.l (.l (.r (.l (.l (.e))))))
def p73 : Pt := .l (.r (.l (.r (.l (.l (.e))))))
def p74 : Pt := .r (.r (.l (.r (.l (.l (.e))))))
def p75 : Pt := .l (.l (.r (.r (.l (.l (.e))))))
def p76 : Pt := .r (.l (.r (.r (.l (.l (.e))))))
def p77 : Pt := .l (.r (.r (.r (.l (.l (.e))))))
def p78 : Pt := .r (.r (.r (.r (.l (.l (.e))))))
def p79 : Pt := .l (.l (.l (.l (.r (.l (.e))))))
def p80 : Pt := .r (.l (.l (.l (.r (.l (.e))))))
def p81 : Pt := .l (.r (.l (.l (.r (.l (.e))))))
def p82 : Pt := .r (.r (.l (.l (.r (.l (.e))))))
def p83 : Pt := .l (.l (.r (.l (.r (.l (.e))))))
def p84 : Pt := .r (.l (.r (.l (.r (.l (.e))))))
def p85 : Pt := .l (.r (.r (.l (.r (.l (.e))))))
def p86 : Pt := .r (.r (.r (.l (.r (.l (.e))))))
def p87 : Pt := .l (.l (.l (.r (.r (.l (.e))))))
def p88 : Pt := .r (.l (.l (.r (.r (.l (.e))))))
def p89 : Pt := .l (.r (.l (.r (.r (.l (.e))))))
def p90 : Pt := .r (.r (.l (.r (.r (.l (.e))))))
def p91 : Pt := .l (.l (.r (.r (.r (.l (.e))))))
def p92 : Pt := .r (.l (.r (.r (.r (.l (.e))))))
def p93 : Pt := .l (.r (.r (.r (.r (.l (.e))))))
def p94 : Pt := .r (.r (.r (.r (.r (.l (.e))))))
def p95 : Pt := .l (.l (.l (.l (.l (.r (.e))))))
def p96 : Pt := .r (.l (.l (.l (.l (.r (.e))))))
def p97 : Pt := .l (.r (.l (.l (.l (.r (.e))))))
def p98 : Pt := .r (.r (.l (.l (.l (.r (.e))))))
def p99 : Pt := .l (.l (.r (.l (.l (.r (.e))))))
def p100 : Pt := .r (.l (.r (.l (.l (.r (.e))))))
def p101 : Pt := .l (.r (.r (.l (.l (.r (.e))))))
def p102 : Pt := .r (.r (.r (.l (.l (.r (.e))))))
def p103 : Pt := .l (.l (.l (.r (.l (.r (.e))))))
def p104 : Pt := .r (.l (.l (.r (.l (.r (.e))))))
def p105 : Pt := .l (.r (.l (.r (.l (.r (.e))))))
def p106 : Pt := .r (.r (.l (.r (.l (.r (.e))))))
def p107 : Pt := .l (.l (.r (.r (.l (.r (.e))))))
def p108 : Pt := .r (.l (.r (.r (.l (.r (.e))))))
def p109 : Pt := .l (.r (.r (.r (.l (.r (.e))))))
def p110 : Pt := .r (.r (.r (.r (.l (.r (.e))))))
def p111 : Pt := .l (.l (.l (.l (.r (.r (.e))))))
def p112 : Pt := .r (.l (.l (.l (.r (.r (.e))))))
def p113 : Pt := .l (.r (.l (.l (.r (.r (.e))))))
def p114 : Pt := .r (.r (.l (.l (.r (.r (.e))))))
def p115 : Pt := .l (.l (.r (.l (.r (.r (.e))))))
def p116 : Pt := .r (.l (.r (.l (.r (.r (.e))))))
def p117 : Pt := .l (.r (.r (.l (.r (.r (.e))))))
def p118 : Pt := .r (.r (.r (.l (.r (.r (.e))))))
def p119 : Pt := .l (.l (.l (.r (.r (.r (.e))))))
def p120 : Pt := .r (.l (.l (.r (.r (.r (.e))))))
def p121 : Pt := .l (.r (.l (.r (.r (.r (.e))))))
def p122 : Pt := .r (.r (.l (.r (.r (.r (.e))))))
def p123 : Pt := .l (.l (.r (.r (.r (.r (.e))))))
def p124 : Pt := .r (.l (.r (.r (.r (.r (.e))))))
def p125 : Pt := .l (.r (.r (.r (.r (.r (.e))))))
def p126 : Pt := .r (.r (.r (.r (.r (.r (.e))))))
def p127 : Pt := .l (.l (.l (.l (.l (.l (.l (.e)))))))
def p128 : Pt := .r (.l (.l (.l (.l (.l (.l (.e)))))))
def p129 : Pt := .l (.r (.l (.l (.l (.l (.l (.e)))))))
def p130 : Pt := .r (.r (.l (.l (.l (.l (.l (.e)))))))
def p131 : Pt := .l (.l (.r (.l (.l (.l (.l (.e)))))))
def p132 : Pt := .r (.l (.r (.l (.l (.l (.l (.e)))))))
def p133 : Pt := .l (.r (.r (.l (.l (.l (.l (.e)))))))
def p134 : Pt := .r (.r (.r (.l (.l (.l (.l (.e)))))))
def p135 : Pt := .l (.l (.l (.r (.l (.l (.l (.e)))))))
def p136 : Pt := .r (.l (.l (.r (.l (.l (.l (.e)))))))
def p137 : Pt := .l (.r (.l (.r (.l (.l (.l (.e)))))))
def p138 : Pt := .r (.r (.l (.r (.l (.l (.l (.e)))))))
def p139 : Pt := .l (.l (.r (.r (.l (.l (.l (.e)))))))
def p140 : Pt := .r (.l (.r (.r (.l (.l (.l (.e)))))))
def p141 : Pt := .l (.r (.r (.r (.l (.l (.l (.e)))))))
def p142 : Pt := .r (.r (.r (.r (.l (.l (.l (.e)))))))
def p143 : Pt := .l (.l (.l (.l (.r (.l (.l (.e)))))))
def p144 : Pt := .r (.l (.l (.l (.r (.l (.l (.e)))))))
def p145 : Pt := .l (.r (.l (.l (.r (.l (.l (.e)))))))
def p146 : Pt := .r (.r (.l (.l (.r (.l (.l (.e)))))))
def p147 : Pt := .l (.l (.r (.l (.r (.l (.l (.e)))))))
def p148 : Pt := .r (.l (.r (.l (.r (.l (.l (.e)))))))
def p149 : Pt := .l (.r (.r (.l (.r (.l (.l (.e)))))))
def p150 : Pt := .r (.r (.r (.l (.r (.l (.l (.e)))))))
def p151 : Pt := .l (.l (.l (.r (.r (.l (.l (.e)))))))
def p152 : Pt := .r (.l (.l (.r (.r (.l (.l (.e)))))))
def p153 : Pt := .l (.r (.l (.r (.r (.l (.l (.e)))))))
def p154 : Pt := .r (.r (.l (.r (.r (.l (.l (.e)))))))
def p155 : Pt := .l (.l (.r (.r (.r (.l (.l (.e)))))))
def p156 : Pt := .r (.l (.r (.r (.r (.l (.l (.e)))))))
def p157 : Pt := .l (.r (.r (.r (.r (.l (.l (.e)))))))
def p158 : Pt := .r (.r (.r (.r (.r (.l (.l (.e)))))))
def p159 : Pt := .l (.l (.l (.l (.l (.r (.l (.e)))))))
def p160 : Pt := .r (.l (.l (.l (.l (.r (.l (.e)))))))
def p161 : Pt := .l (.r (.l (.l (.l (.r (.l (.e)))))))
def p162 : Pt := .r (.r (.l (.l (.l (.r (.l (.e)))))))
def p163 : Pt := .l (.l (.r (.l (.l (.r (.l (.e)))))))
def p164 : Pt := .r (.l (.r (.l (.l (.r (.l (.e)))))))
def p165 : Pt := .l (.r (.r (.l (.l (.r (.l (.e)))))))
def p166 : Pt := .r (.r (.r (.l (.l (.r (.l (.e)))))))
def p167 : Pt := .l (.l (.l (.r (.l (.r (.l (.e)))))))
def p168 : Pt := .r (.l (.l (.r (.l (.r (.l (.e)))))))
def p169 : Pt := .l (.r (.l (.r (.l (.r (.l (.e)))))))
def p170 : Pt := .r (.r (.l (.r (.l (.r (.l (.e)))))))
def p171 : Pt := .l (.l (.r (.r (.l (.r (.l (.e)))))))
def p172 : Pt := .r (.l (.r (.r (.l (.r (.l (.e)))))))
def p173 : Pt := .l (.r (.r (.r (.l (.r (.l (.e)))))))
def p174 : Pt := .r (.r (.r (.r (.l (.r (.l (.e)))))))
def p175 : Pt := .l (.l (.l (.l (.r (.r (.l (.e)))))))
def p176 : Pt := .r (.l (.l (.l (.r (.r (.l (.e)))))))
def p177 : Pt := .l (.r (.l (.l (.r (.r (.l (.e)))))))
def p178 : Pt := .r (.r (.l (.l (.r (.r (.l (.e)))))))
def p179 : Pt := .l (.l (.r (.l (.r (.r (.l (.e)))))))
def p180 : Pt := .r (.l (.r (.l (.r (.r (.l (.e)))))))
def p181 : Pt := .l (.r (.r (.l (.r (.r (.l (.e)))))))
def p182 : Pt := .r (.r (.r (.l (.r (.r (.l (.e)))))))
def p183 : Pt := .l (.l (.l (.r (.r (.r (.l (.e)))))))
def p184 : Pt := .r (.l (.l (.r (.r (.r (.l (.e)))))))
def p185 : Pt := .l (.r (.l (.r (.r (.r (.l (.e)))))))
def p186 : Pt := .r (.r (.l (.r (.r (.r (.l (.e)))))))
def p187 : Pt := .l (.l (.r (.r (.r (.r (.l (.e)))))))
def p188 : Pt := .r (.l (.r (.r (.r (.r (.l (.e)))))))
def p189 : Pt := .l (.r (.r (.r (.r (.r (.l (.e)))))))
def p190 : Pt := .r (.r (.r (.r (.r (.r (.l (.e)))))))
def p191 : Pt := .l (.l (.l (.l (.l (.l (.r (.e)))))))
def p192 : Pt := .r (.l (.l (.l (.l (.l (.r (.e)))))))
def p193 : Pt := .l (.r (.l (.l (.l (.l (.r (.e)))))))
def p194 : Pt := .r (.r (.l (.l (.l (.l (.r (.e)))))))
def p195 : Pt := .l (.l (.r (.l (.l (.l (.r (.e)))))))
def p196 : Pt := .r (.l (.r (.l (.l (.l (.r (.e)))))))
def p197 : Pt := .l (.r (.r (.l (.l (.l (.r (.e)))))))
def p198 : Pt := .r (.r (.r (.l (.l (.l (.r (.e)))))))
def p199 : Pt := .l (.l (.l (.r (.l (.l (.r (.e)))))))
def p200 : Pt := .r (.l (.l (.r (.l (.l (.r (.e)))))))
def p201 : Pt := .l (.r (.l (.r (.l (.l (.r (.e)))))))
def p202 : Pt := .r (.r (.l (.r (.l (.l (.r (.e)))))))
def p203 : Pt := .l (.l (.r (.r (.l (.l (.r (.e)))))))
def p204 : Pt := .r (.l (.r (.r (.l (.l (.r (.e)))))))
def p205 : Pt := .l (.r (.r (.r (.l (.l (.r (.e)))))))
def p206 : Pt := .r (.r (.r (.r (.l (.l (.r (.e)))))))
def p207 : Pt := .l (.l (.l (.l (.r (.l (.r (.e)))))))
/-- seesawlaw25.HistoryNames -/
def ef7 : EFn := { id := 7, N := 208, res := [(p0, none)], code := (.seq (.region [⟨some p0, .mov (.c (.bool false)), none, 0⟩] false)
 (.seq (.seq (.region [⟨some p19, .call (.c (.fn 9 [] [])) [], none, 0⟩, ⟨some p20, .un .not (.t p19), none, 1⟩, ⟨some p21, .mov (.t p20), none, 3⟩, ⟨some p22, .pick (.t p21) (.c (.bool true)) (.c (.bool false)), none, 7⟩, ⟨some p23, .mov (.t p22), none, 15⟩, ⟨some p24, .pick (.t p23) (.c (.bool true)) (.c (.bool false)), none, 31⟩, ⟨some p25, .mov (.t p24), none, 63⟩, ⟨some p26, .pick (.t p25) (.c (.bool true)) (.c (.bool false)), none, 127⟩] false)
 (.cond (.t p26) (.seq (.region [⟨some p0, .mov (.c (.bool false)), none, 0⟩] false)
 .ret) .skip))
 (.seq (.region [⟨some p1, .mov (.c (.fn 13 [] [])), none, 0⟩] false)
 (.seq (.region [⟨some p27, .call (.c (.fn 14 [] [])) [(.c (.int .u8 (.ofNat 1))), (.c (.int .i64 (.ofNat 0))), (.c (.int .i64 (.ofNat 0)))], none, 0⟩, ⟨some p2, .alloc [(.int .u8 (.ofNat 0)), (.int .i64 (.ofNat 0)), (.int .i64 (.ofNat 0)), (.int .i64 (.ofNat 0)), (.int .i64 (.ofNat 0)), (.int .i64 (.ofNat 0)), (.int .u8 (.ofNat 0))], none, 0⟩, ⟨none, .store 7 (.t p2) (.t p27), none, 3⟩] false)
 (.seq (.region [⟨some p28, .mov (.t p1), none, 0⟩, ⟨some p29, .loadN 7 (.t p2), none, 0⟩, ⟨some p30, .call (.t p28) [(.t p29)], none, 3⟩, ⟨some p31, .mov (.t p1), none, 0⟩, ⟨some p32, .call (.c (.fn 14 [] [])) [(.c (.int .u8 (.ofNat 2))), (.c (.int .i64 (.ofNat 0))), (.c (.int .i64 (.ofNat 0)))], none, 7⟩, ⟨some p33, .call (.t p31) [(.t p32)], none, 31⟩, ⟨some p34, .mov (.t p1), none, 0⟩, ⟨some p35, .call (.c (.fn 14 [] [])) [(.c (.int .u8 (.ofNat 3))), (.c (.int .i64 (.ofNat 2))), (.c (.int .i64 (.ofNat 0)))], none, 63⟩, ⟨some p36, .call (.t p34) [(.t p35)], none, 255⟩, ⟨some p37, .mov (.t p1), none, 0⟩, ⟨some p38, .call (.c (.fn 14 [] [])) [(.c (.int .u8 (.ofNat 12))), (.c (.int .i64 (.ofNat 0))), (.c (.int .i64 (.ofNat 0)))], none, 511⟩, ⟨some p39, .call (.t p37) [(.t p38)], none, 2047⟩, ⟨some p40, .loadN 7 (.t p2), none, 0⟩, ⟨some p41, .call (.c (.fn 14 [] [])) [(.c (.int .u8 (.ofNat 4))), (.c (.int .i64 (.ofNat 0))), (.c (.int .i64 (.ofNat 0)))], none, 4095⟩, ⟨some p42, .call (.c (.fn 14 [] [])) [(.c (.int .u8 (.ofNat 4))), (.c (.int .i64 (.ofNat 1))), (.c (.int .i64 (.ofNat 0)))], none, 12287⟩, ⟨some p43, .call (.c (.fn 14 [] [])) [(.c (.int .u8 (.ofNat 5))), (.c (.int .i64 (.ofNat 0))), (.c (.int .i64 (.ofNat 1)))], none, 28671⟩, ⟨some p44, .call (.c (.fn 14 [] [])) [(.c (.int .u8 (.ofNat 7))), (.c (.int .i64 (.ofNat 0))), (.c (.int .i64 (.ofNat 1)))], none, 61439⟩, ⟨some p45, .build [(.int .u8 (.ofNat 0)), (.int .i64 (.ofNat 0)), (.int .i64 (.ofNat 0)), (.int .i64 (.ofNat 0)), (.int .i64 (.ofNat 0)), (.int .i64 (.ofNat 0)), (.int .u8 (.ofNat 0))] [(0, 1, (.c (.int .u8 (.ofNat 8)))), (3, 1, (.c (.int .i64 (.ofNat 1)))), (5, 1, (.c (.int .i64 (.ofNat 4))))], none, 0⟩, ⟨some p46, .build [(.int .u8 (.ofNat 0)), (.int .i64 (.ofNat 0)), (.int .i64 (.ofNat 0)), (.int .i64 (.ofNat 0)), (.int .i64 (.ofNat 0)), (.int .i64 (.ofNat 0)), (.int .u8 (.ofNat 0))] [(0, 1, (.c (.int .u8 (.ofNat 8)))), (3, 1, (.c (.int .i64 (.ofNat 2)))), (5, 1, (.c (.int .i64 (.ofNat 5))))], none, 0⟩, ⟨some p47, .call (.c (.fn 14 [] [])) [(.c (.int .u8 (.ofNat 9))), (.c (.int .i64 (.ofNat 0))), (.c (.int .i64 (.ofNat 0)))], none, 126975⟩, ⟨some p48, .call (.c (.fn 14 [] [])) [(.c (.int .u8 (.ofNat 9))), (.c (.int .i64 (.ofNat 1))), (.c (.int .i64 (.ofNat 0)))], none, 651263⟩, ⟨some p49, .mov (.t p1), none, 0⟩, ⟨some p50, .call (.c (.fn 14 [] [])) [(.c (.int .u8 (.ofNat 13))), (.c (.int .i64 (.ofNat 0))), (.c (.int .i64 (.ofNat 0)))], none, 1699839⟩, ⟨some p51, .call (.t p49) [(.t p50)], none, 7991295⟩, ⟨some p52, .mov (.t p1), none, 0⟩, ⟨some p53, .call (.c (.fn 14 [] [])) [(.c (.int .u8 (.ofNat 1))), (.c (.int .i64 (.ofNat 0))), (.c (.int .i64 (.ofNat 1)))], none, 16379903⟩, ⟨some p54, .call (.t p52) [(.t p53)], none, 66711551⟩, ⟨some p55, .mov (.t p1), none, 0⟩, ⟨some p56, .call (.c (.fn 14 [] [])) [(.c (.int .u8 (.ofNat 4))), (.c (.int .i64 (.ofNat 1))), (.c (.int .i64 (.ofNat 0)))], none, 133820415⟩, ⟨some p57, .call (.t p55) [(.t p56)], none, 536473599⟩, ⟨some p58, .mov (.t p1), none, 0⟩, ⟨some p59, .build [(.int .u8 (.ofNat 0)), (.int .i64 (.ofNat 0)), (.int .i64 (.ofNat 0)), (.int .i64 (.ofNat 0)), (.int .i64 (.ofNat 0)), (.int .i64 (.ofNat 0)), (.int .u8 (.ofNat 0))] [(0, 1, (.c (.int .u8 (.ofNat 10)))), (6, 1, (.c (.int .u8 (.ofNat 6))))], none, 0⟩, ⟨some p60, .call (.t p58) [(.t p59)], none, 4294569983⟩, ⟨some p61, .mov (.t p1), none, 0⟩, ⟨some p62, .call (.c (.fn 14 [] [])) [(.c (.int .u8 (.ofNat 11))), (.c (.int .i64 (.ofNat 1))), (.c (.int .i64 (.ofNat 0)))], none, 8589537279⟩, ⟨some p63, .call (.t p61) [(.t p62)], none, 34359341055⟩, ⟨some p64, .buildSl [(.int .u8 (.ofNat 0)), (.int .i64 (.ofNat 0)), (.int .i64 (.ofNat 0)), (.int .i64 (.ofNat 0)), (.int .i64 (.ofNat 0)), (.int .i64 (.ofNat 0)), (.int .u8 (.ofNat 0)), (.int .u8 (.ofNat 0)), (.int .i64 (.ofNat 0)), (.int .i64 (.ofNat 0)), (.int .i64 (.ofNat 0)), (.int .i64 (.ofNat 0)), (.int .i64 (.ofNat 0)), (.int .u8 (.ofNat 0)), (.int .u8 (.ofNat 0)), (.int .i64 (.ofNat 0)), (.int .i64 (.ofNat 0)), (.int .i64 (.ofNat 0)), (.int .i64 (.ofNat 0)), (.int .i64 (.ofNat 0)), (.int .u8 (.ofNat 0)), (.int .u8 (.ofNat 0)), (.int .i64 (.ofNat 0)), (.int .i64 (.ofNat 0)), (.int .i64 (.ofNat 0)), (.int .i64 (.ofNat 0)), (.int .i64 (.ofNat 0)), (.int .u8 (.ofNat 0)), (.int .u8 (.ofNat 0)), (.int .i64 (.ofNat 0)), (.int .i64 (.ofNat 0)), (.int .i64 (.ofNat 0)), (.int .i64 (.ofNat 0)), (.int .i64 (.ofNat 0)), (.int .u8 (.ofNat 0)), (.int .u8 (.ofNat 0)), (.int .i64 (.ofNat 0)), (.int .i64 (.ofNat 0)), (.int .i64 (.ofNat 0)), (.int .i64 (.ofNat 0)), (.int .i64 (.ofNat 0)), (.int .u8 (.ofNat 0)), (.int .u8 (.ofNat 0)), (.int .i64 (.ofNat 0)), (.int .i64 (.ofNat 0)), (.int .i64 (.ofNat 0)), (.int .i64 (.ofNat 0)), (.int .i64 (.ofNat 0)), (.int .u8 (.ofNat 0)), (.int .u8 (.ofNat 0)), (.int .i64 (.ofNat 0)), (.int .i64 (.ofNat 0)), (.int .i64 (.ofNat 0)), (.int .i64 (.ofNat 0)), (.int .i64 (.ofNat 0)), (.int .u8 (.ofNat 0)), (.int .u8 (.ofNat 0)), (.int .i64 (.ofNat 0)), (.int .i64 (.ofNat 0)), (.int .i64 (.ofNat 0)), (.int .i64 (.ofNat 0)), (.int .i64 (.ofNat 0)), (.int .u8 (.ofNat 0)), (.int .u8 (.ofNat 0)), (.int .i64 (.ofNat 0)), (.int .i64 (.ofNat 0)), (.int .i64 (.ofNat 0)), (.int .i64 (.ofNat 0)), (.int .i64 (.ofNat 0)), (.int .u8 (.ofNat 0)), (.int .u8 (.ofNat 0)), (.int .i64 (.ofNat 0)), (.int .i64 (.ofNat 0)), (.int .i64 (.ofNat 0)), (.int .i64 (.ofNat 0)), (.int .i64 (.ofNat 0)), (.int .u8 (.ofNat 0)), (.int .u8 (.ofNat 0)), (.int .i64 (.ofNat 0)), (.int .i64 (.ofNat 0)), (.int .i64 (.ofNat 0)), (.int .i64 (.ofNat 0)), (.int .i64 (.ofNat 0)), (.int .u8 (.ofNat 0)), (.int .u8 (.ofNat 0)), (.int .i64 (.ofNat 0)), (.int .i64 (.ofNat 0)), (.int .i64 (.ofNat 0)), (.int .i64 (.ofNat 0)), (.int .i64 (.ofNat 0)), (.int .u8 (.ofNat 0)), (.int .u8 (.ofNat 0)), (.int .i64 (.ofNat 0)), (.int .i64 (.ofNat 0)), (.int .i64 (.ofNat 0)), (.int .i64 (.ofNat 0)), (.int .i64 (.ofNat 0)), (.int .u8 (.ofNat 0)), (.int .u8 (.ofNat 0)), (.int .i64 (.ofNat 0)), (.int .i64 (.ofNat 0)), (.int .i64 (.ofNat 0)), (.int .i64 (.ofNat 0)), (.int .i64 (.ofNat 0)), (.int .u8 (.ofNat 0)), (.int .u8 (.ofNat 0)), (.int .i64 (.ofNat 0)), (.int .i64 (.ofNat 0)), (.int .i64 (.ofNat 0)), (.int .i64 (.ofNat 0)), (.int .i64 (.ofNat 0)), (.int .u8 (.ofNat 0)), (.int .u8 (.ofNat 0)), (.int .i64 (.ofNat 0)), (.int .i64 (.ofNat 0)), (.int .i64 (.ofNat 0)), (.int .i64 (.ofNat 0)), (.int .i64 (.ofNat 0)), (.int .u8 (.ofNat 0)), (.int .u8 (.ofNat 0)), (.int .i64 (.ofNat 0)), (.int .i64 (.ofNat 0)), (.int .i64 (.ofNat 0)), (.int .i64 (.ofNat 0)), (.int .i64 (.ofNat 0)), (.int .u8 (.ofNat 0))] 18 [(0, 7, (.t p30)), (7, 7, (.t p33)), (14, 7, (.t p36)), (21, 7, (.t p39)), (28, 7, (.t p40)), (35, 7, (.t p41)), (42, 7, (.t p42)), (49, 7, (.t p43)), (56, 7, (.t p44)), (63, 7, (.t p45)), (70, 7, (.t p46)), (77, 7, (.t p47)), (84, 7, (.t p48)), (91, 7, (.t p51)), (98, 7, (.t p54)), (105, 7, (.t p57)), (112, 7, (.t p60)), (119, 7, (.t p63))], none, 68719476735⟩, ⟨some p3, .mov (.t p64), none, 137438953471⟩] true)
 (.seq (.region [⟨some p65, .build [(.int .i64 (.ofNat 0)), (.int .i64 (.ofNat 0))] [(0, 1, (.c (.int .i64 (.ofNat 2))))], none, 0⟩, ⟨some p66, .buildSl [(.int .i64 (.ofNat 0)), (.int .i64 (.ofNat 0))] 1 [(0, 2, (.t p65))], none, 1⟩, ⟨some p67, .build [(.int .i64 (.ofNat 0)), (.int .i64 (.ofNat 0)), (.int .i64 (.ofNat 0)), (.int .i64 (.ofNat 0)), (.int .i64 (.ofNat 0)), (.int .i64 (.ofNat 0)), (.bool false), .nils, .nils] [(0, 1, (.c (.int .i64 (.ofNat 1)))), (2, 1, (.c (.int .i64 (.ofNat 0)))), (3, 1, (.c (.int .i64 (.ofNat 3)))), (7, 1, (.t p66))], none, 3⟩, ⟨some p68, .build [(.int .i64 (.ofNat 0)), (.int .i64 (.ofNat 0))] [(0, 1, (.c (.int .i64 (.ofNat 1)))), (1, 1, (.c (.int .i64 (.ofNat 4))))], none, 0⟩, ⟨some p69, .build [(.int .i64 (.ofNat 0)), (.int .i64 (.ofNat 0))] [(0, 1, (.c (.int .i64 (.ofNat 2)))), (1, 1, (.c (.int .i64 (.ofNat 5))))], none, 0⟩, ⟨some p70, .buildSl [(.int .i64 (.ofNat 0)), (.int .i64 (.ofNat 0)), (.int .i64 (.ofNat 0)), (.int .i64 (.ofNat 0))] 2 [(0, 2, (.t p68)), (2, 2, (.t p69))], none, 24⟩, ⟨some p71, .build [(.int .i64 (.ofNat 0)), (.int .i64 (.ofNat 0)), (.int .i64 (.ofNat 0)), (.int .i64 (.ofNat 0)), (.int .i64 (.ofNat 0)), (.int .i64 (.ofNat 0)), (.bool false), .nils, .nils] [(2, 1, (.c (.int .i64 (.ofNat 4)))), (3, 1, (.c (.int .i64 (.ofNat 12)))), (5, 1, (.c (.int .i64 (.ofNat 1)))), (6, 1, (.c (.bool true))), (8, 1, (.t p70))], none, 56⟩, ⟨some p72, .build [(.int .i64 (.ofNat 0)), (.int .i64 (.ofNat 0)), (.int .i64 (.ofNat 0)), (.int .i64 (.ofNat 0)), (.int .i64 (.ofNat 0)), (.int .i64 (.ofNat 0)), (.bool false), .nils, .nils] [(0, 1, (.c (.int .i64 (.ofNat 1)))), (2, 1, (.c (.int .i64 (.ofNat 14)))), (3, 1, (.c (.int .i64 (.ofNat 17)))), (4, 1, (.c (.int .i64 (.ofNat 1))))], none, 0⟩, ⟨some p73, .buildSl [(.int .i64 (.ofNat 0)), (.int .i64 (.ofNat 0)), (.int .i64 (.ofNat 0)), (.int .i64 (.ofNat 0)), (.int .i64 (.ofNat 0)), (.int .i64 (.ofNat 0)), (.bool false), .nils, .nils, (.int .i64 (.ofNat 0)), (.int .i64 (.ofNat 0)), (.int .i64 (.ofNat 0)), (.int .i64 (.ofNat 0)), (.int .i64 (.ofNat 0)), (.int .i64 (.ofNat 0)), (.bool false), .nils, .nils, (.int .i64 (.ofNat 0)), (.int .i64 (.ofNat 0)), (.int .i64 (.ofNat 0)), (.int .i64 (.ofNat 0)), (.int .i64 (.ofNat 0)), (.int .i64 (.ofNat 0)), (.bool false), .nils, .nils] 3 [(0, 9, (.t p67)), (9, 9, (.t p71)), (18, 9, (.t p72))], none, 255⟩, ⟨some p4, .mov (.t p73), none, 511⟩] false)
 (.seq (.region [⟨some p75, .mov (.t p3), none, 0⟩, ⟨some p76, .call (.c (.fn 15 [] [])) [(.t p75)], none, 1⟩, ⟨some p77, .call (.c (.fn 10 [] [])) [(.t p76)], none, 3⟩, ⟨some p74, .mov (.t p77), none, 7⟩, ⟨some p78, .ext 0 (.t p74), none, 15⟩, ⟨some p79, .ext 1 (.t p74), none, 15⟩, ⟨some p5, .mov (.t p78), none, 31⟩, ⟨some p6, .mov (.t p79), none, 127⟩] false)
 (.seq (.region [⟨some p81, .mov (.t p3), none, 0⟩, ⟨some p82, .call (.c (.fn 15 [] [])) [(.t p81)], none, 1⟩, ⟨some p83, .call (.c (.fn 11 [] [])) [(.t p82)], none, 3⟩, ⟨some p80, .mov (.t p83), none, 7⟩, ⟨some p84, .ext 0 (.t p80), none, 15⟩, ⟨some p85, .ext 1 (.t p80), none, 15⟩, ⟨some p7, .mov (.t p84), none, 31⟩, ⟨some p8, .mov (.t p85), none, 127⟩] false)
 (.seq (.seq (.region [⟨some p86, .mov (.t p6), none, 0⟩, ⟨some p87, .bin .neq (.t p86) (.c (.int .i64 (.ofNat 0))), none, 1⟩, ⟨some p88, .mov (.t p87), none, 3⟩, ⟨some p89, .mov (.t p8), some (p88, false), 7⟩, ⟨some p90, .bin .neq (.t p89) (.c (.int .i64 (.ofNat 0))), some (p88, false), 15⟩, ⟨some p91, .pick (.t p88) (.c (.bool true)) (.t p90), none, 31⟩, ⟨some p92, .mov (.t p91), none, 63⟩, ⟨some p93, .mov (.t p5), some (p92, false), 127⟩, ⟨some p94, .mov (.t p4), some (p92, false), 127⟩, ⟨some p95, .call (.c (.fn 16 [] [])) [(.t p93), (.t p94)], some (p92, false), 511⟩, ⟨some p96, .un .not (.t p95), some (p92, false), 1023⟩, ⟨some p97, .pick (.t p92) (.c (.bool true)) (.t p96), none, 2047⟩, ⟨some p98, .mov (.t p97), none, 4095⟩, ⟨some p99, .mov (.t p5), some (p98, false), 8191⟩, ⟨some p100, .mov (.t p4), some (p98, false), 8191⟩, ⟨some p101, .call (.c (.fn 17 [] [])) [(.t p99), (.t p100)], some (p98, false), 32767⟩, ⟨some p102, .un .not (.t p101), some (p98, false), 65535⟩, ⟨some p103, .pick (.t p98) (.c (.bool true)) (.t p102), none, 131071⟩, ⟨some p104, .mov (.t p103), none, 262143⟩, ⟨some p105, .mov (.t p7), some (p104, false), 524287⟩, ⟨some p106, .buildSl [(.int .i64 (.ofNat 0)), (.int .i64 (.ofNat 0)), (.int .i64 (.ofNat 0)), (.int .i64 (.ofNat 0)), (.int .i64 (.ofNat 0)), (.int .i64 (.ofNat 0)), (.int .i64 (.ofNat 0)), (.int .i64 (.ofNat 0)), (.int .i64 (.ofNat 0)), (.int .i64 (.ofNat 0)), (.int .i64 (.ofNat 0)), (.int .i64 (.ofNat 0)), (.int .i64 (.ofNat 0)), (.int .i64 (.ofNat 0)), (.int .i64 (.ofNat 0)), (.int .i64 (.ofNat 0)), (.int .i64 (.ofNat 0)), (.int .i64 (.ofNat 0))] 18 [(0, 1, (.c (.int .i64 (.ofNat 0)))), (1, 1, (.c (.int .i64 (.ofNat 0)))), (2, 1, (.c (.int .i64 (.ofNat 0)))), (3, 1, (.c (.int .i64 (.ofNat 0)))), (4, 1, (.c (.int .i64 (.ofNat 1)))), (5, 1, (.c (.int .i64 (.ofNat 1)))), (6, 1, (.c (.int .i64 (.ofNat 1)))), (7, 1, (.c (.int .i64 (.ofNat 1)))), (8, 1, (.c (.int .i64 (.ofNat 1)))), (9, 1, (.c (.int .i64 (.ofNat 1)))), (10, 1, (.c (.int .i64 (.ofNat 1)))), (11, 1, (.c (.int .i64 (.ofNat 1)))), (12, 1, (.c (.int .i64 (.ofNat 1)))), (13, 1, (.c (.int .i64 (.negSucc 0)))), (14, 1, (.c (.int .i64 (.ofNat 2)))), (15, 1, (.c (.int .i64 (.ofNat 2)))), (16, 1, (.c (.int .i64 (.ofNat 2)))), (17, 1, (.c (.int .i64 (.ofNat 2))))], some (p104, false), 524287⟩, ⟨some p107, .call (.c (.fn 18 [] [])) [(.t p105), (.t p106)], some (p104, false), 2097151⟩, ⟨some p108, .un .not (.t p107), some (p104, false), 4194303⟩, ⟨some p109, .pick (.t p104) (.c (.bool true)) (.t p108), none, 8388607⟩] false)
 (.cond (.t p109) (.seq (.region [⟨some p0, .mov (.c (.bool false)), none, 0⟩] false)
 .ret) .skip))
 (.seq (.seq (.region [⟨some p110, .build [(.int .i64 (.ofNat 0)), (.int .i64 (.ofNat 0)), (.int .i64 (.ofNat 0))] [(0, 1, (.c (.int .i64 (.ofNat 10)))), (1, 1, (.c (.int .i64 (.ofNat 1)))), (2, 1, (.c (.int .i64 (.ofNat 1))))], none, 0⟩, ⟨some p111, .build [(.int .i64 (.ofNat 0)), (.int .i64 (.ofNat 0)), (.int .i64 (.ofNat 0))] [(0, 1, (.c (.int .i64 (.ofNat 12)))), (1, 1, (.c (.int .i64 (.ofNat 1)))), (2, 1, (.c (.int .i64 (.ofNat 2))))], none, 0⟩, ⟨some p112, .build [(.int .i64 (.ofNat 0)), (.int .i64 (.ofNat 0)), (.int .i64 (.ofNat 0))] [(0, 1, (.c (.int .i64 (.ofNat 17)))), (1, 1, (.c (.int .i64 (.ofNat 2)))), (2, 1, (.c (.int .i64 (.ofNat 0))))], none, 0⟩, ⟨some p113, .buildSl [(.int .i64 (.ofNat 0)), (.int .i64 (.ofNat 0)), (.int .i64 (.ofNat 0)), (.int .i64 (.ofNat 0)), (.int .i64 (.ofNat 0)), (.int .i64 (.ofNat 0)), (.int .i64 (.ofNat 0)), (.int .i64 (.ofNat 0)), (.int .i64 (.ofNat 0))] 3 [(0, 3, (.t p110)), (3, 3, (.t p111)), (6, 3, (.t p112))], none, 7⟩, ⟨some p114, .len false (.t p113), none, 15⟩, ⟨some p115, .mov (.c (.int .i64 (.ofNat 0))), none, 0⟩] false)
 (.block 0 (.loop (.seq (.region [⟨some p116, .bin .lss (.t p115) (.t p114), none, 0⟩] false)
 (.seq (.cond (.t p116) .skip (.exit 0))
 (.seq (.block 1 (.seq (.region [⟨some p117, .iaddrS 3 (.t p113) (.t p115), none, 0⟩, ⟨some p118, .loadN 3 (.t p117), none, 1⟩, ⟨some p10, .alloc [(.int .i64 (.ofNat 0)), (.int .i64 (.ofNat 0)), (.int .i64 (.ofNat 0))], none, 0⟩, ⟨none, .store 3 (.t p10) (.t p118), none, 7⟩] false)
 (.seq (.region [⟨some p120, .mov (.t p3), none, 0⟩, ⟨some p121, .faddr 0 (.t p10), none, 0⟩, ⟨some p122, .load1 (.t p121), none, 2⟩, ⟨some p123, .slc 7 (.t p120) none (some (.t p122)), none, 7⟩, ⟨some p124, .call (.c (.fn 15 [] [])) [(.t p123)], none, 15⟩, ⟨some p125, .call (.c (.fn 10 [] [])) [(.t p124)], none, 31⟩, ⟨some p119, .mov (.t p125), none, 63⟩, ⟨some p126, .ext 0 (.t p119), none, 127⟩, ⟨some p127, .ext 1 (.t p119), none, 127⟩, ⟨some p11, .mov (.t p126), none, 255⟩, ⟨some p12, .mov (.t p127), none, 1023⟩] false)
 (.seq (.region [⟨some p128, .mov (.t p12), none, 0⟩, ⟨some p129, .bin .neq (.t p128) (.c (.int .i64 (.ofNat 0))), none, 1⟩, ⟨some p130, .mov (.t p129), none, 3⟩, ⟨some p131, .mov (.t p11), some (p130, false), 7⟩, ⟨some p132, .len false (.t p131), some (p130, false), 15⟩, ⟨some p133, .faddr 1 (.t p10), some (p130, false), 7⟩, ⟨some p134, .load1 (.t p133), some (p130, false), 39⟩, ⟨some p135, .bin .add (.t p134) (.c (.int .i64 (.ofNat 1))), some (p130, false), 103⟩, ⟨some p136, .bin .neq (.t p132) (.t p135), some (p130, false), 255⟩, ⟨some p137, .pick (.t p130) (.c (.bool true)) (.t p136), none, 511⟩, ⟨some p138, .mov (.t p137), none, 1023⟩, ⟨some p139, .mov (.t p11), some (p138, false), 2047⟩, ⟨some p140, .faddr 1 (.t p10), some (p138, false), 2047⟩, ⟨some p141, .load1 (.t p140), some (p138, false), 6143⟩, ⟨some p142, .iaddrS 9 (.t p139) (.t p141), some (p138, false), 16383⟩, ⟨some p143, .faddr 3 (.t p142), some (p138, false), 32767⟩, ⟨some p144, .load1 (.t p143), some (p138, false), 65535⟩, ⟨some p145, .bin .neq (.t p144) (.c (.int .i64 (.negSucc 0))), some (p138, false), 131071⟩, ⟨some p146, .pick (.t p138) (.c (.bool true)) (.t p145), none, 262143⟩, ⟨some p147, .mov (.t p146), none, 524287⟩, ⟨some p148, .mov (.t p11), some (p147, false), 1048575⟩, ⟨some p149, .faddr 1 (.t p10), some (p147, false), 1048575⟩, ⟨some p150, .load1 (.t p149), some (p147, false), 3145727⟩, ⟨some p151, .iaddrS 9 (.t p148) (.t p150), some (p147, false), 8388607⟩, ⟨some p152, .faddr 8 (.t p151), some (p147, false), 16777215⟩, ⟨some p153, .load1 (.t p152), some (p147, false), 33554431⟩, ⟨some p154, .len false (.t p153), some (p147, false), 67108863⟩, ⟨some p155, .faddr 2 (.t p10), some (p147, false), 1048575⟩, ⟨some p156, .load1 (.t p155), some (p147, false), 135266303⟩, ⟨some p157, .bin .neq (.t p154) (.t p156), some (p147, false), 536870911⟩, ⟨some p158, .pick (.t p147) (.c (.bool true)) (.t p157), none, 1073741823⟩] true)
 (.cond (.t p158) (.seq (.region [⟨some p0, .mov (.c (.bool false)), none, 0⟩] false)
 .ret) .skip)))))
 (.region [⟨some p159, .bin .add (.t p115) (.c (.int .i64 (.ofNat 1))), none, 0⟩, ⟨some p115, .mov (.t p159), none, 1⟩] false)))))))
 (.seq (.region [⟨some p161, .mov (.t p3), none, 0⟩, ⟨some p162, .slc 7 (.t p161) (some (.c (.int .i64 (.ofNat 1)))) none, none, 1⟩, ⟨some p163, .call (.c (.fn 15 [] [])) [(.t p162)], none, 3⟩, ⟨some p164, .call (.c (.fn 10 [] [])) [(.t p163)], none, 7⟩, ⟨some p160, .mov (.t p164), none, 15⟩, ⟨some p165, .ext 0 (.t p160), none, 31⟩, ⟨some p166, .ext 1 (.t p160), none, 31⟩, ⟨some p13, .mov (.t p165), none, 63⟩, ⟨some p14, .mov (.t p166), none, 255⟩] false)
 (.seq (.region [⟨some p168, .build [(.int .i64 (.ofNat 0)), (.int .i64 (.ofNat 0)), (.int .i64 (.ofNat 0)), .nils] [], none, 0⟩, ⟨some p169, .call (.c (.fn 11 [] [])) [(.t p168)], none, 1⟩, ⟨some p167, .mov (.t p169), none, 3⟩, ⟨some p170, .ext 0 (.t p167), none, 7⟩, ⟨some p171, .ext 1 (.t p167), none, 7⟩, ⟨some p15, .mov (.t p170), none, 15⟩, ⟨some p16, .mov (.t p171), none, 63⟩] false)
 (.seq (.region [⟨some p173, .build [(.int .i64 (.ofNat 0)), (.int .i64 (.ofNat 0)), (.int .i64 (.ofNat 0)), .nils] [(1, 1, (.c (.int .i64 (.ofNat 1)))), (2, 1, (.c (.int .i64 (.ofNat 1))))], none, 0⟩, ⟨some p174, .call (.c (.fn 10 [] [])) [(.t p173)], none, 1⟩, ⟨some p172, .mov (.t p174), none, 3⟩, ⟨some p175, .ext 0 (.t p172), none, 7⟩, ⟨some p176, .ext 1 (.t p172), none, 7⟩, ⟨some p17, .mov (.t p175), none, 15⟩, ⟨some p18, .mov (.t p176), none, 63⟩] false)
 (.seq (.region [⟨some p177, .mov (.t p4), none, 0⟩, ⟨some p178, .iaddrS 9 (.t p177) (.c (.int .i64 (.ofNat 1))), none, 1⟩, ⟨some p179, .faddr 8 (.t p178), none, 3⟩, ⟨some p180, .load1 (.t p179), none, 7⟩, ⟨some p181, .iaddrS 2 (.t p180) (.c (.int .i64 (.ofNat 0))), none, 15⟩, ⟨some p182, .faddr 1 (.t p181), none, 31⟩, ⟨none, .store 1 (.t p182) (.c (.int .i64 (.ofNat 9))), none, 63⟩] false)
 (.seq (.region [⟨some p183, .mov (.t p14), none, 0⟩, ⟨some p184, .bin .eql (.t p183) (.c (.int .i64 (.ofNat 4))), none, 1⟩, ⟨some p185, .mov (.t p184), none, 3⟩, ⟨some p186, .mov (.t p16), some (p185, true), 7⟩, ⟨some p187, .bin .eql (.t p186) (.c (.int .i64 (.ofNat 1))), some (p185, true), 15⟩, ⟨some p188, .pick (.t p185) (.t p187) (.c (.bool false)), none, 31⟩, ⟨some p189, .mov (.t p188), none, 63⟩, ⟨some p190, .mov (.t p17), some (p189, true), 127⟩, ⟨some p191, .len false (.t p190), some (p189, true), 255⟩, ⟨some p192, .bin .eql (.t p191) (.c (.int .i64 (.ofNat 0))), some (p189, true), 511⟩, ⟨some p193, .pick (.t p189) (.t p192) (.c (.bool false)), none, 1023⟩, ⟨some p194, .mov (.t p193), none, 2047⟩, ⟨some p195, .mov (.t p18), some (p194, true), 4095⟩, ⟨some p196, .bin .eql (.t p195) (.c (.int .i64 (.ofNat 0))), some (p194, true), 8191⟩, ⟨some p197, .pick (.t p194) (.t p196) (.c (.bool false)), none, 16383⟩, ⟨some p198, .mov (.t p197), none, 32767⟩, ⟨some p199, .mov (.t p5), some (p198, true), 65535⟩, ⟨some p200, .mov (.t p4), some (p198, true), 65535⟩, ⟨some p201, .call (.c (.fn 17 [] [])) [(.t p199), (.t p200)], some (p198, true), 262143⟩, ⟨some p202, .un .not (.t p201), some (p198, true), 524287⟩, ⟨some p203, .pick (.t p198) (.t p202) (.c (.bool false)), none, 1048575⟩, ⟨some p204, .mov (.t p203), none, 2097151⟩, ⟨some p205, .buildSl [] 0 [], some (p204, true), 4194303⟩, ⟨some p206, .call (.c (.fn 17 [] [])) [(.c .nils), (.t p205)], some (p204, true), 8388607⟩, ⟨some p207, .pick (.t p204) (.t p206) (.c (.bool false)), none, 16777215⟩, ⟨some p0, .mov (.t p207), none, 33554431⟩] false)
 .ret))))))))))))))) }
theorem ok7 : cFn Tryd.prog 7 = some ef7 := by kernel_rfl
/-- seesawlaw25.works -/
def ef9 : EFn := { id := 9, N := 42, res := [(p0, none)], code := (.seq (.region [⟨some p0, .mov (.c (.bool false)), none, 0⟩] false)
 (.seq (.region [⟨some p6, .call (.c (.fn 14 [] [])) [(.c (.int .u8 (.ofNat 1))), (.c (.int .i64 (.ofNat 0))), (.c (.int .i64 (.ofNat 0)))], none, 0⟩, ⟨some p7, .call (.c (.fn 14 [] [])) [(.c (.int .u8 (.ofNat 2))), (.c (.int .i64 (.ofNat 0))), (.c (.int .i64 (.ofNat 0)))], none, 1⟩, ⟨some p8, .build [(.int .u8 (.ofNat 0)), (.int .i64 (.ofNat 0)), (.int .i64 (.ofNat 0)), (.int .i64 (.ofNat 0)), (.int .i64 (.ofNat 0)), (.int .i64 (.ofNat 0)), (.int .u8 (.ofNat 0))] [(0, 1, (.c (.int .u8 (.ofNat 3)))), (5, 1, (.c (.int .i64 (.ofNat 7))))], none, 0⟩, ⟨some p9, .call (.c (.fn 14 [] [])) [(.c (.int .u8 (.ofNat 7))), (.c (.int .i64 (.ofNat 0))), (.c (.int .i64 (.ofNat 0)))], none, 3⟩, ⟨some p10, .buildSl [(.int .u8 (.ofNat 0)), (.int .i64 (.ofNat 0)), (.int .i64 (.ofNat 0)), (.int .i64 (.ofNat 0)), (.int .i64 (.ofNat 0)), (.int .i64 (.ofNat 0)), (.int .u8 (.ofNat 0)), (.int .u8 (.ofNat 0)), (.int .i64 (.ofNat 0)), (.int .i64 (.ofNat 0)), (.int .i64 (.ofNat 0)), (.int .i64 (.ofNat 0)), (.int .i64 (.ofNat 0)), (.int .u8 (.ofNat 0)), (.int .u8 (.ofNat 0)), (.int .i64 (.ofNat 0)), (.int .i64 (.ofNat 0)), (.int .i64 (.ofNat 0)), (.int .i64 (.ofNat 0)), (.int .i64 (.ofNat 0)), (.int .u8 (.ofNat 0)), (.int .u8 (.ofNat 0)), (.int .i64 (.ofNat 0)), (.int .i64 (.ofNat 0)), (.int .i64 (.ofNat 0)), (.int .i64 (.ofNat 0)), (.int .i64 (.ofNat 0)), (.int .u8 (.ofNat 0))] 4 [(0, 7, (.t p6)), (7, 7, (.t p7)), (14, 7, (.t p8)), (21, 7, (.t p9))], none, 15⟩, ⟨some p11, .call (.c (.fn 15 [] [])) [(.t p10)], none, 31⟩, ⟨some p12, .call (.c (.fn 10 [] [])) [(.t p11)], none, 63⟩, ⟨some p5, .mov (.t p12), none, 127⟩, ⟨some p13, .ext 0 (.t p5), none, 255⟩, ⟨some p14, .ext 1 (.t p5), none, 255⟩, ⟨some p1, .mov (.t p13), none, 511⟩, ⟨some p2, .mov (.t p14), none, 2047⟩] false)
 (.seq (.region [⟨some p16, .call (.c (.fn 14 [] [])) [(.c (.int .u8 (.ofNat 1))), (.c (.int .i64 (.ofNat 0))), (.c (.int .i64 (.ofNat 0)))], none, 0⟩, ⟨some p17, .buildSl [(.int .u8 (.ofNat 0)), (.int .i64 (.ofNat 0)), (.int .i64 (.ofNat 0)), (.int .i64 (.ofNat 0)), (.int .i64 (.ofNat 0)), (.int .i64 (.ofNat 0)), (.int .u8 (.ofNat 0))] 1 [(0, 7, (.t p16))], none, 1⟩, ⟨some p18, .call (.c (.fn 15 [] [])) [(.t p17)], none, 3⟩, ⟨some p19, .call (.c (.fn 10 [] [])) [(.t p18)], none, 7⟩, ⟨some p15, .mov (.t p19), none, 15⟩, ⟨some p20, .ext 0 (.t p15), none, 31⟩, ⟨some p21, .ext 1 (.t p15), none, 31⟩, ⟨some p3, .mov (.t p20), none, 63⟩, ⟨some p4, .mov (.t p21), none, 255⟩] false)
 (.seq (.region [⟨some p22, .mov (.t p2), none, 0⟩, ⟨some p23, .bin .eql (.t p22) (.c (.int .i64 (.ofNat 0))), none, 1⟩, ⟨some p24, .mov (.t p23), none, 3⟩, ⟨some p25, .mov (.t p4), some (p24, true), 7⟩, ⟨some p26, .bin .eql (.t p25) (.c (.int .i64 (.ofNat 0))), some (p24, true), 15⟩, ⟨some p27, .pick (.t p24) (.t p26) (.c (.bool false)), none, 31⟩, ⟨some p28, .mov (.t p27), none, 63⟩, ⟨some p29, .mov (.t p1), some (p28, true), 127⟩, ⟨some p30, .build [(.int .i64 (.ofNat 0)), (.int .i64 (.ofNat 0))] [(0, 1, (.c (.int .i64 (.ofNat 0)))), (1, 1, (.c (.int .i64 (.ofNat 7))))], some (p28, true), 127⟩, ⟨some p31, .buildSl [(.int .i64 (.ofNat 0)), (.int .i64 (.ofNat 0))] 1 [(0, 2, (.t p30))], some (p28, true), 383⟩, ⟨some p32, .build [(.int .i64 (.ofNat 0)), (.int .i64 (.ofNat 0)), (.int .i64 (.ofNat 0)), (.int .i64 (.ofNat 0)), (.int .i64 (.ofNat 0)), (.int .i64 (.ofNat 0)), (.bool false), .nils, .nils] [(2, 1, (.c (.int .i64 (.ofNat 0)))), (3, 1, (.c (.int .i64 (.ofNat 3)))), (6, 1, (.c (.bool true))), (7, 1, (.t p31))], some (p28, true), 895⟩, ⟨some p33, .buildSl [(.int .i64 (.ofNat 0)), (.int .i64 (.ofNat 0)), (.int .i64 (.ofNat 0)), (.int .i64 (.ofNat 0)), (.int .i64 (.ofNat 0)), (.int .i64 (.ofNat 0)), (.bool false), .nils, .nils] 1 [(0, 9, (.t p32))], some (p28, true), 1919⟩, ⟨some p34, .call (.c (.fn 16 [] [])) [(.t p29), (.t p33)], some (p28, true), 4095⟩, ⟨some p35, .pick (.t p28) (.t p34) (.c (.bool false)), none, 8191⟩, ⟨some p36, .mov (.t p35), none, 16383⟩, ⟨some p37, .mov (.t p3), some (p36, true), 32767⟩, ⟨some p38, .build [(.int .i64 (.ofNat 0)), (.int .i64 (.ofNat 0)), (.int .i64 (.ofNat 0)), (.int .i64 (.ofNat 0)), (.int .i64 (.ofNat 0)), (.int .i64 (.ofNat 0)), (.bool false), .nils, .nils] [(2, 1, (.c (.int .i64 (.ofNat 0)))), (3, 1, (.c (.int .i64 (.negSucc 0))))], some (p36, true), 32767⟩, ⟨some p39, .buildSl [(.int .i64 (.ofNat 0)), (.int .i64 (.ofNat 0)), (.int .i64 (.ofNat 0)), (.int .i64 (.ofNat 0)), (.int .i64 (.ofNat 0)), (.int .i64 (.ofNat 0)), (.bool false), .nils, .nils] 1 [(0, 9, (.t p38))], some (p36, true), 98303⟩, ⟨some p40, .call (.c (.fn 16 [] [])) [(.t p37), (.t p39)], some (p36, true), 262143⟩, ⟨some p41, .pick (.t p36) (.t p40) (.c (.bool false)), none, 524287⟩, ⟨some p0, .mov (.t p41), none, 1048575⟩] false)
 .ret)))) }
theorem ok9 : cFn Tryd.prog 9 = some ef9 := by kernel_rfl
/-- history.Of -/
def ef10 : EFn := { id := 10, N := 138, res := [(p2, none), (p3, none)], code := (.seq (.region [⟨some p1, .box (.t p0), none, 0⟩, ⟨some p2, .mov (.c .nils), none, 0⟩, ⟨some p3, .mov (.c (.int .i64 (.ofNat 0))), none, 2⟩] false)
 (.seq (.seq (.region [⟨some p14, .loadN 4 (.t p1), none, 0⟩, ⟨some p15, .call (.c (.fn 12 [] [])) [(.t p14)], none, 1⟩, ⟨some p13, .mov (.t p15), none, 3⟩, ⟨some p16, .ext 0 (.t p13), none, 7⟩, ⟨some p17, .ext 1 (.t p13), none, 7⟩, ⟨some p4, .mov (.t p16), none, 15⟩, ⟨some p5, .mov (.t p17), none, 63⟩] false)
 (.seq (.region [⟨some p18, .mov (.t p5), none, 0⟩, ⟨some p19, .bin .neq (.t p18) (.c (.int .i64 (.ofNat 0))), none, 1⟩] false)
 (.cond (.t p19) (.seq (.region [⟨some p20, .mov (.t p5), none, 0⟩, ⟨some p2, .mov (.c .nils), none, 0⟩, ⟨some p3, .mov (.t p20), none, 3⟩] false)
 .ret) .skip)))
 (.seq (.region [⟨some p6, .alloc [.nils], none, 0⟩] false)
 (.seq (.region [⟨some p7, .alloc [.nils], none, 0⟩] false)
 (.seq (.seq (.region [⟨some p21, .loadN 4 (.t p1), none, 0⟩, ⟨some p22, .call (.c (.fn 21 [] [])) [(.t p21)], none, 1⟩] false)
 (.block 0 (.rangeF (.t p22) [p23, p24] (.seq (.region [⟨some p8, .mov (.t p23), none, 0⟩] false)
 (.region [⟨some p9, .mov (.t p24), none, 0⟩] false)) (.block 1 (.seq (.region [⟨some p25, .faddr 3 (.t p1), none, 0⟩, ⟨some p26, .load1 (.t p25), none, 1⟩, ⟨some p27, .mov (.t p8), none, 0⟩, ⟨some p28, .iaddrS 7 (.t p26) (.t p27), none, 7⟩, ⟨some p29, .loadN 7 (.t p28), none, 15⟩, ⟨some p10, .alloc [(.int .u8 (.ofNat 0)), (.int .i64 (.ofNat 0)), (.int .i64 (.ofNat 0)), (.int .i64 (.ofNat 0)), (.int .i64 (.ofNat 0)), (.int .i64 (.ofNat 0)), (.int .u8 (.ofNat 0))], none, 0⟩, ⟨none, .store 7 (.t p10) (.t p29), none, 63⟩] false)
 (.seq (.seq (.region [⟨some p30, .faddr 0 (.t p10), none, 0⟩, ⟨some p31, .load1 (.t p30), none, 1⟩, ⟨some p32, .bin .eql (.t p31) (.c (.int .u8 (.ofNat 1))), none, 3⟩] false)
 (.cond (.t p32) (.seq (.region [⟨some p33, .load1 (.t p6), none, 0⟩, ⟨some p34, .faddr 1 (.t p10), none, 0⟩, ⟨some p35, .load1 (.t p34), none, 2⟩, ⟨some p36, .faddr 2 (.t p10), none, 0⟩, ⟨some p37, .load1 (.t p36), none, 8⟩, ⟨some p38, .mov (.t p8), none, 0⟩, ⟨some p39, .faddr 4 (.t p10), none, 0⟩, ⟨some p40, .load1 (.t p39), none, 64⟩, ⟨some p41, .build [(.int .i64 (.ofNat 0)), (.int .i64 (.ofNat 0)), (.int .i64 (.ofNat 0)), (.int .i64 (.ofNat 0)), (.int .i64 (.ofNat 0)), (.int .i64 (.ofNat 0)), (.bool false), .nils, .nils] [(0, 1, (.t p35)), (1, 1, (.t p37)), (2, 1, (.t p38)), (3, 1, (.c (.int .i64 (.negSucc 0)))), (4, 1, (.t p40))], none, 254⟩, ⟨some p42, .buildSl [(.int .i64 (.ofNat 0)), (.int .i64 (.ofNat 0)), (.int .i64 (.ofNat 0)), (.int .i64 (.ofNat 0)), (.int .i64 (.ofNat 0)), (.int .i64 (.ofNat 0)), (.bool false), .nils, .nils] 1 [(0, 9, (.t p41))], none, 510⟩, ⟨some p43, .app 9 (.t p33) (.t p42), none, 1023⟩, ⟨none, .store 1 (.t p6) (.t p43), none, 2047⟩] false)
 (.seq (.region [⟨some p44, .load1 (.t p7), none, 0⟩, ⟨some p45, .buildSl [(.int .i64 (.ofNat 0))] 1 [(0, 1, (.c (.int .i64 (.ofNat 0))))], none, 0⟩, ⟨some p46, .app 1 (.t p44) (.t p45), none, 3⟩, ⟨none, .store 1 (.t p7) (.t p46), none, 7⟩] false)
 (.exit 1))) .skip))
 (.seq (.seq (.region [⟨some p47, .mov (.t p9), none, 0⟩, ⟨some p48, .bin .eql (.t p47) (.c (.int .i64 (.negSucc 0))), none, 1⟩] false)
 (.cond (.t p48) (.exit 1) .skip))
 (.seq (.region [⟨some p49, .load1 (.t p6), none, 0⟩, ⟨some p50, .mov (.t p9), none, 0⟩, ⟨some p51, .iaddrS 9 (.t p49) (.t p50), none, 3⟩, ⟨some p11, .mov (.t p51), none, 7⟩] false)
 (.seq (.region [⟨some p12, .mov (.c (.bool false)), none, 0⟩] false)
 (.seq (.seq (.region [⟨some p52, .faddr 0 (.t p10), none, 0⟩, ⟨some p53, .load1 (.t p52), none, 1⟩] false)
 (.block 2 (.seq (.region [⟨some p55, .bin .eql (.t p53) (.c (.int .u8 (.ofNat 3))), none, 0⟩, ⟨some p54, .mov (.t p55), none, 1⟩] false)
 (.cond (.t p54) (.region [⟨some p56, .mov (.t p11), none, 0⟩, ⟨some p57, .mov (.t p11), none, 0⟩, ⟨some p58, .nilck (.t p57), none, 2⟩, ⟨some p59, .faddr 7 (.t p58), none, 6⟩, ⟨some p60, .load1 (.t p59), none, 14⟩, ⟨some p61, .faddr 3 (.t p10), none, 0⟩, ⟨some p62, .load1 (.t p61), none, 32⟩, ⟨some p63, .faddr 5 (.t p10), none, 0⟩, ⟨some p64, .load1 (.t p63), none, 128⟩, ⟨some p65, .build [(.int .i64 (.ofNat 0)), (.int .i64 (.ofNat 0))] [(0, 1, (.t p62)), (1, 1, (.t p64))], none, 480⟩, ⟨some p66, .buildSl [(.int .i64 (.ofNat 0)), (.int .i64 (.ofNat 0))] 1 [(0, 2, (.t p65))], none, 992⟩, ⟨some p67, .app 2 (.t p60) (.t p66), none, 2046⟩, ⟨some p68, .nilck (.t p56), none, 4095⟩, ⟨some p69, .faddr 7 (.t p68), none, 8191⟩, ⟨none, .store 1 (.t p69) (.t p67), none, 16383⟩] true) (.seq (.region [⟨some p71, .bin .eql (.t p53) (.c (.int .u8 (.ofNat 8))), none, 0⟩, ⟨some p70, .mov (.t p71), none, 1⟩] false)
 (.cond (.t p70) (.region [⟨some p72, .mov (.t p11), none, 0⟩, ⟨some p73, .mov (.t p11), none, 0⟩, ⟨some p74, .nilck (.t p73), none, 2⟩, ⟨some p75, .faddr 8 (.t p74), none, 6⟩, ⟨some p76, .load1 (.t p75), none, 14⟩, ⟨some p77, .faddr 3 (.t p10), none, 0⟩, ⟨some p78, .load1 (.t p77), none, 32⟩, ⟨some p79, .faddr 5 (.t p10), none, 0⟩, ⟨some p80, .load1 (.t p79), none, 128⟩, ⟨some p81, .build [(.int .i64 (.ofNat 0)), (.int .i64 (.ofNat 0))] [(0, 1, (.t p78)), (1, 1, (.t p80))], none, 480⟩, ⟨some p82, .buildSl [(.int .i64 (.ofNat 0)), (.int .i64 (.ofNat 0))] 1 [(0, 2, (.t p81))], none, 992⟩, ⟨some p83, .app 2 (.t p76) (.t p82), none, 2046⟩, ⟨some p84, .nilck (.t p72), none, 4095⟩, ⟨some p85, .faddr 8 (.t p84), none, 8191⟩, ⟨none, .store 1 (.t p85) (.t p83), none, 16383⟩] true) (.seq (.region [⟨some p87, .bin .eql (.t p53) (.c (.int .u8 (.ofNat 4))), none, 0⟩, ⟨some p86, .mov (.t p87), none, 1⟩] false)
 (.cond (.t p86) (.region [⟨some p88, .load1 (.t p7), none, 0⟩, ⟨some p89, .mov (.t p9), none, 0⟩, ⟨some p90, .iaddrS 1 (.t p88) (.t p89), none, 3⟩, ⟨some p91, .load1 (.t p90), none, 7⟩, ⟨some p92, .bin .add (.t p91) (.c (.int .i64 (.ofNat 1))), none, 15⟩, ⟨some p93, .iaddrS 1 (.t p88) (.t p89), none, 31⟩, ⟨none, .store 1 (.t p93) (.t p92), none, 63⟩] false) (.seq (.region [⟨some p95, .bin .eql (.t p53) (.c (.int .u8 (.ofNat 7))), none, 0⟩, ⟨some p94, .mov (.t p95), none, 1⟩] false)
 (.cond (.t p94) (.seq (.region [⟨some p96, .mov (.t p11), none, 0⟩, ⟨some p97, .mov (.t p11), none, 0⟩, ⟨some p98, .faddr 4 (.t p10), none, 0⟩, ⟨some p99, .load1 (.t p98), none, 4⟩, ⟨some p100, .nilck (.t p96), none, 1⟩, ⟨some p101, .faddr 6 (.t p100), none, 17⟩, ⟨none, .store 1 (.t p101) (.c (.bool true)), none, 49⟩, ⟨some p102, .nilck (.t p97), none, 127⟩, ⟨some p103, .faddr 5 (.t p102), none, 255⟩, ⟨none, .store 1 (.t p103) (.t p99), none, 511⟩] true)
 (.region [⟨some p104, .load1 (.t p7), none, 0⟩, ⟨some p105, .mov (.t p9), none, 0⟩, ⟨some p106, .iaddrS 1 (.t p104) (.t p105), none, 3⟩, ⟨some p107, .load1 (.t p106), none, 7⟩, ⟨some p108, .bin .eql (.t p107) (.c (.int .i64 (.ofNat 0))), none, 15⟩, ⟨some p12, .mov (.t p108), none, 31⟩] false)) (.seq (.seq (.region [⟨some p110, .bin .eql (.t p53) (.c (.int .u8 (.ofNat 9))), none, 0⟩, ⟨some p109, .mov (.t p110), none, 1⟩] false)
 (.cond (.t p109) .skip (.region [⟨some p111, .bin .eql (.t p53) (.c (.int .u8 (.ofNat 11))), none, 0⟩, ⟨some p109, .mov (.t p111), none, 1⟩] false)))
 (.cond (.t p109) (.seq (.region [⟨some p112, .load1 (.t p7), none, 0⟩, ⟨some p113, .mov (.t p9), none, 0⟩, ⟨some p114, .iaddrS 1 (.t p112) (.t p113), none, 3⟩, ⟨some p115, .load1 (.t p114), none, 7⟩, ⟨some p116, .bin .sub (.t p115) (.c (.int .i64 (.ofNat 1))), none, 15⟩, ⟨some p117, .iaddrS 1 (.t p112) (.t p113), none, 31⟩, ⟨none, .store 1 (.t p117) (.t p116), none, 63⟩] false)
 (.region [⟨some p118, .load1 (.t p7), none, 0⟩, ⟨some p119, .mov (.t p9), none, 0⟩, ⟨some p120, .iaddrS 1 (.t p118) (.t p119), none, 3⟩, ⟨some p121, .load1 (.t p120), none, 7⟩, ⟨some p122, .bin .eql (.t p121) (.c (.int .i64 (.ofNat 0))), none, 15⟩, ⟨some p12, .mov (.t p122), none, 31⟩] false)) (.seq (.region [⟨some p124, .bin .eql (.t p53) (.c (.int .u8 (.ofNat 10))), none, 0⟩, ⟨some p123, .mov (.t p124), none, 1⟩] false)
 (.cond (.t p123) (.region [⟨some p125, .load1 (.t p7), none, 0⟩, ⟨some p126, .mov (.t p9), none, 0⟩, ⟨some p127, .iaddrS 1 (.t p125) (.t p126), none, 3⟩, ⟨some p128, .load1 (.t p127), none, 7⟩, ⟨some p129, .bin .eql (.t p128) (.c (.int .i64 (.ofNat 0))), none, 15⟩, ⟨some p12, .mov (.t p129), none, 31⟩] false) (.seq (.region [⟨some p131, .bin .eql (.t p53) (.c (.int .u8 (.ofNat 12))), none, 0⟩, ⟨some p130, .mov (.t p131), none, 1⟩] false)
 (.cond (.t p130) (.region [⟨some p12, .mov (.c (.bool true)), none, 0⟩] false) .skip))))))))))))))))
 (.seq (.region [⟨some p132, .mov (.t p12), none, 0⟩] false)
 (.cond (.t p132) (.region [⟨some p133, .mov (.t p11), none, 0⟩, ⟨some p134, .mov (.t p8), none, 0⟩, ⟨some p135, .nilck (.t p133), none, 3⟩, ⟨some p136, .faddr 3 (.t p135), none, 7⟩, ⟨none, .store 1 (.t p136) (.t p134), none, 15⟩] false) .skip))))))))))))
 (.seq (.region [⟨some p137, .load1 (.t p6), none, 0⟩, ⟨some p2, .mov (.t p137), none, 1⟩, ⟨some p3, .mov (.c (.int .i64 (.ofNat 0))), none, 3⟩] false)
 .ret)))))) }
theorem ok10 : cFn Tryd.prog 10 = some ef10 := by kernel_rfl
/-- history.Split -/
def ef11 : EFn := { id := 11, N := 26, res := [(p2, none), (p3, none)], code := (.seq (.region [⟨some p1, .box (.t p0), none, 0⟩, ⟨some p2, .mov (.c .nils), none, 0⟩, ⟨some p3, .mov (.c (.int .i64 (.ofNat 0))), none, 2⟩] false)
 (.seq (.seq (.region [⟨some p10, .loadN 4 (.t p1), none, 0⟩, ⟨some p11, .call (.c (.fn 12 [] [])) [(.t p10)], none, 1⟩, ⟨some p9, .mov (.t p11), none, 3⟩, ⟨some p12, .ext 0 (.t p9), none, 7⟩, ⟨some p13, .ext 1 (.t p9), none, 7⟩, ⟨some p4, .mov (.t p12), none, 15⟩, ⟨some p5, .mov (.t p13), none, 63⟩] false)
 (.seq (.region [⟨some p14, .mov (.t p5), none, 0⟩, ⟨some p15, .bin .neq (.t p14) (.c (.int .i64 (.ofNat 0))), none, 1⟩] false)
 (.cond (.t p15) (.seq (.region [⟨some p16, .mov (.t p5), none, 0⟩, ⟨some p2, .mov (.c .nils), none, 0⟩, ⟨some p3, .mov (.t p16), none, 3⟩] false)
 .ret) .skip)))
 (.seq (.region [⟨some p6, .alloc [.nils], none, 0⟩] false)
 (.seq (.seq (.region [⟨some p17, .loadN 4 (.t p1), none, 0⟩, ⟨some p18, .call (.c (.fn 21 [] [])) [(.t p17)], none, 1⟩] false)
 (.block 0 (.rangeF (.t p18) [p19, p20] (.region [⟨some p8, .mov (.t p20), none, 0⟩] false) (.block 1 (.region [⟨some p21, .load1 (.t p6), none, 0⟩, ⟨some p22, .mov (.t p8), none, 0⟩, ⟨some p23, .buildSl [(.int .i64 (.ofNat 0))] 1 [(0, 1, (.t p22))], none, 2⟩, ⟨some p24, .app 1 (.t p21) (.t p23), none, 7⟩, ⟨none, .store 1 (.t p6) (.t p24), none, 15⟩] false)))))
 (.seq (.region [⟨some p25, .load1 (.t p6), none, 0⟩, ⟨some p2, .mov (.t p25), none, 1⟩, ⟨some p3, .mov (.c (.int .i64 (.ofNat 0))), none, 3⟩] false)
 .ret))))) }
theorem ok11 : cFn Tryd.prog 11 = some ef11 := by kernel_rfl
/-- shape.Check -/
def ef12 : EFn := { id := 12, N := 46, res := [(p2, none), (p3, none)], code := (.seq (.region [⟨some p1, .box (.t p0), none, 0⟩, ⟨some p2, .mov (.c (.int .i64 (.ofNat 0))), none, 0⟩, ⟨some p3, .mov (.c (.int .i64 (.ofNat 0))), none, 2⟩] false)
 (.seq (.region [⟨some p9, .faddr 0 (.t p1), none, 0⟩, ⟨some p10, .load1 (.t p9), none, 1⟩, ⟨some p11, .faddr 1 (.t p1), none, 0⟩, ⟨some p12, .load1 (.t p11), none, 4⟩, ⟨some p13, .faddr 2 (.t p1), none, 0⟩, ⟨some p14, .load1 (.t p13), none, 16⟩, ⟨some p15, .call (.c (.fn 22 [] [])) [(.t p10), (.t p12), (.t p14)], none, 63⟩, ⟨some p8, .mov (.t p15), none, 127⟩, ⟨some p16, .ext 0 (.t p8), none, 255⟩, ⟨some p17, .ext 1 (.t p8), none, 255⟩, ⟨some p4, .mov (.t p16), none, 511⟩, ⟨some p3, .mov (.t p17), none, 2047⟩] false)
 (.seq (.block 0 (.seq (.region [⟨some p19, .mov (.t p3), none, 0⟩, ⟨some p20, .bin .neq (.t p19) (.c (.int .i64 (.ofNat 0))), none, 1⟩, ⟨some p18, .mov (.t p20), none, 3⟩] false)
 (.cond (.t p18) (.seq (.region [⟨some p21, .mov (.t p3), none, 0⟩, ⟨some p2, .mov (.c (.int .i64 (.ofNat 0))), none, 0⟩, ⟨some p3, .mov (.t p21), none, 3⟩] false)
 .ret) (.seq (.region [⟨some p23, .faddr 3 (.t p1), none, 0⟩, ⟨some p24, .load1 (.t p23), none, 1⟩, ⟨some p25, .len false (.t p24), none, 3⟩, ⟨some p26, .bin .gtr (.t p25) (.c (.int .i64 (.ofNat 1048576))), none, 7⟩, ⟨some p22, .mov (.t p26), none, 15⟩] false)
 (.cond (.t p22) (.seq (.region [⟨some p2, .mov (.c (.int .i64 (.ofNat 0))), none, 0⟩, ⟨some p3, .mov (.c (.int .i64 (.ofNat 40))), none, 1⟩] false)
 .ret) .skip)))))
 (.seq (.seq (.region [⟨some p27, .faddr 3 (.t p1), none, 0⟩, ⟨some p28, .load1 (.t p27), none, 1⟩, ⟨some p29, .len false (.t p28), none, 3⟩, ⟨some p30, .mov (.c (.int .i64 (.ofNat 0))), none, 0⟩] false)
 (.block 1 (.loop (.seq (.region [⟨some p31, .bin .lss (.t p30) (.t p29), none, 0⟩] false)
 (.seq (.cond (.t p31) .skip (.exit 1))
 (.seq (.block 2 (.seq (.region [⟨some p32, .mov (.t p30), none, 0⟩, ⟨some p33, .iaddrS 7 (.t p28) (.t p30), none, 0⟩, ⟨some p34, .loadN 7 (.t p33), none, 2⟩, ⟨some p6, .alloc [(.int .u8 (.ofNat 0)), (.int .i64 (.ofNat 0)), (.int .i64 (.ofNat 0)), (.int .i64 (.ofNat 0)), (.int .i64 (.ofNat 0)), (.int .i64 (.ofNat 0)), (.int .u8 (.ofNat 0))], none, 0⟩, ⟨some p5, .mov (.t p32), none, 15⟩, ⟨none, .store 7 (.t p6) (.t p34), none, 31⟩] false)
 (.seq (.region [⟨some p35, .mov (.t p4), none, 0⟩, ⟨some p36, .loadN 7 (.t p6), none, 0⟩, ⟨some p37, .call (.c (.fn 23 [] [])) [(.t p35), (.t p36)], none, 3⟩, ⟨some p7, .mov (.t p37), none, 7⟩] false)
 (.seq (.region [⟨some p38, .mov (.t p7), none, 0⟩, ⟨some p39, .bin .neq (.t p38) (.c (.int .i64 (.ofNat 0))), none, 1⟩] false)
 (.cond (.t p39) (.seq (.region [⟨some p40, .mov (.t p5), none, 0⟩, ⟨some p41, .mov (.t p7), none, 0⟩, ⟨some p2, .mov (.t p40), none, 1⟩, ⟨some p3, .mov (.t p41), none, 7⟩] false)
 .ret) .skip)))))
 (.region [⟨some p42, .bin .add (.t p30) (.c (.int .i64 (.ofNat 1))), none, 0⟩, ⟨some p30, .mov (.t p42), none, 1⟩] false)))))))
 (.seq (.region [⟨some p43, .faddr 3 (.t p1), none, 0⟩, ⟨some p44, .load1 (.t p43), none, 1⟩, ⟨some p45, .len false (.t p44), none, 3⟩, ⟨some p2, .mov (.t p45), none, 7⟩, ⟨some p3, .mov (.c (.int .i64 (.ofNat 0))), none, 15⟩] false)
 .ret))))) }
theorem ok12 : cFn Tryd.prog 12 = some ef12 := by kernel_rfl
/-- seesawlaw25.HistoryNames$1 -/
def ef13 : EFn := { id := 13, N := 5, res := [(p2, some (some 7))], code := (.seq (.region [⟨some p1, .box (.t p0), none, 0⟩, ⟨some p2, .alloc [(.int .u8 (.ofNat 0)), (.int .i64 (.ofNat 0)), (.int .i64 (.ofNat 0)), (.int .i64 (.ofNat 0)), (.int .i64 (.ofNat 0)), (.int .i64 (.ofNat 0)), (.int .u8 (.ofNat 0))], none, 0⟩] false)
 (.seq (.region [⟨some p3, .faddr 1 (.t p1), none, 0⟩, ⟨none, .store 1 (.t p3) (.c (.int .i64 (.ofNat 1))), none, 1⟩] false)
 (.seq (.region [⟨some p4, .loadN 7 (.t p1), none, 0⟩, ⟨none, .store 7 (.t p2) (.t p4), none, 1⟩] false)
 .ret))) }
theorem ok13 : cFn Tryd.prog 13 = some ef13 := by kernel_rfl
/-- seesawlaw25.ev -/
def ef14 : EFn := { id := 14, N := 11, res := [(p6, some (some 7))], code := (.seq (.region [⟨some p6, .alloc [(.int .u8 (.ofNat 0)), (.int .i64 (.ofNat 0)), (.int .i64 (.ofNat 0)), (.int .i64 (.ofNat 0)), (.int .i64 (.ofNat 0)), (.int .i64 (.ofNat 0)), (.int .u8 (.ofNat 0))], none, 0⟩] false)
 (.seq (.region [⟨some p7, .mov (.t p0), none, 0⟩, ⟨some p8, .mov (.t p1), none, 0⟩, ⟨some p9, .mov (.t p2), none, 0⟩, ⟨some p10, .build [(.int .u8 (.ofNat 0)), (.int .i64 (.ofNat 0)), (.int .i64 (.ofNat 0)), (.int .i64 (.ofNat 0)), (.int .i64 (.ofNat 0)), (.int .i64 (.ofNat 0)), (.int .u8 (.ofNat 0))] [(0, 1, (.t p7)), (3, 1, (.t p8)), (4, 1, (.t p9))], none, 7⟩, ⟨none, .store 7 (.t p6) (.t p10), none, 15⟩] false)
 .ret)) }
theorem ok14 : cFn Tryd.prog 14 = some ef14 := by kernel_rfl
/-- seesawlaw25.over -/
def ef15 : EFn := { id := 15, N := 5, res := [(p2, some (some 4))], code := (.seq (.region [⟨some p2, .alloc [(.int .i64 (.ofNat 0)), (.int .i64 (.ofNat 0)), (.int .i64 (.ofNat 0)), .nils], none, 0⟩] false)
 (.seq (.region [⟨some p3, .mov (.t p0), none, 0⟩, ⟨some p4, .build [(.int .i64 (.ofNat 0)), (.int .i64 (.ofNat 0)), (.int .i64 (.ofNat 0)), .nils] [(0, 1, (.c (.int .i64 (.ofNat 2)))), (1, 1, (.c (.int .i64 (.ofNat 3)))), (2, 1, (.c (.int .i64 (.ofNat 2)))), (3, 1, (.t p3))], none, 1⟩, ⟨none, .store 4 (.t p2) (.t p4), none, 3⟩] false)
 .ret)) }
theorem ok15 : cFn Tryd.prog 15 = some ef15 := by kernel_rfl
/-- seesawref25.Same -/
def ef16 : EFn := { id := 16, N := 90, res := [(p4, none)], code := (.seq (.region [⟨some p4, .mov (.c (.bool false)), none, 0⟩] false)
 (.seq (.seq (.region [⟨some p8, .mov (.t p0), none, 0⟩, ⟨some p9, .len false (.t p8), none, 1⟩, ⟨some p10, .mov (.t p1), none, 0⟩, ⟨some p11, .len false (.t p10), none, 4⟩, ⟨some p12, .bin .neq (.t p9) (.t p11), none, 15⟩] false)
 (.cond (.t p12) (.seq (.region [⟨some p4, .mov (.c (.bool false)), none, 0⟩] false)
 .ret) .skip))
 (.seq (.seq (.region [⟨some p5, .mov (.c (.int .i64 (.ofNat 0))), none, 0⟩] false)
 (.block 0 (.loop (.seq (.seq (.region [⟨some p13, .mov (.t p5), none, 0⟩, ⟨some p14, .mov (.t p0), none, 0⟩, ⟨some p15, .len false (.t p14), none, 2⟩, ⟨some p16, .bin .lss (.t p13) (.t p15), none, 7⟩] false)
 (.cond (.t p16) .skip (.exit 0)))
 (.seq (.block 1 (.seq (.region [⟨some p19, .mov (.t p0), none, 0⟩, ⟨some p20, .mov (.t p5), none, 0⟩, ⟨some p21, .iaddrS 9 (.t p19) (.t p20), none, 3⟩, ⟨some p22, .loadN 9 (.t p21), none, 7⟩, ⟨some p23, .mov (.t p1), none, 0⟩, ⟨some p24, .mov (.t p5), none, 0⟩, ⟨some p25, .iaddrS 9 (.t p23) (.t p24), none, 48⟩, ⟨some p26, .loadN 9 (.t p25), none, 112⟩, ⟨some p6, .alloc [(.int .i64 (.ofNat 0)), (.int .i64 (.ofNat 0)), (.int .i64 (.ofNat 0)), (.int .i64 (.ofNat 0)), (.int .i64 (.ofNat 0)), (.int .i64 (.ofNat 0)), (.bool false), .nils, .nils], none, 0⟩, ⟨some p7, .alloc [(.int .i64 (.ofNat 0)), (.int .i64 (.ofNat 0)), (.int .i64 (.ofNat 0)), (.int .i64 (.ofNat 0)), (.int .i64 (.ofNat 0)), (.int .i64 (.ofNat 0)), (.bool false), .nils, .nils], none, 0⟩, ⟨none, .store 9 (.t p6) (.t p22), none, 783⟩, ⟨none, .store 9 (.t p7) (.t p26), none, 2047⟩] true)
 (.seq (.region [⟨some p27, .faddr 0 (.t p6), none, 0⟩, ⟨some p28, .load1 (.t p27), none, 1⟩, ⟨some p29, .faddr 0 (.t p7), none, 0⟩, ⟨some p30, .load1 (.t p29), none, 4⟩, ⟨some p31, .bin .neq (.t p28) (.t p30), none, 15⟩, ⟨some p32, .mov (.t p31), none, 31⟩, ⟨some p33, .faddr 1 (.t p6), some (p32, false), 63⟩, ⟨some p34, .load1 (.t p33), some (p32, false), 127⟩, ⟨some p35, .faddr 1 (.t p7), some (p32, false), 63⟩, ⟨some p36, .load1 (.t p35), some (p32, false), 319⟩, ⟨some p37, .bin .neq (.t p34) (.t p36), some (p32, false), 1023⟩, ⟨some p38, .pick (.t p32) (.c (.bool true)) (.t p37), none, 2047⟩, ⟨some p39, .mov (.t p38), none, 4095⟩, ⟨some p40, .faddr 2 (.t p6), some (p39, false), 8191⟩, ⟨some p41, .load1 (.t p40), some (p39, false), 16383⟩, ⟨some p42, .faddr 2 (.t p7), some (p39, false), 8191⟩, ⟨some p43, .load1 (.t p42), some (p39, false), 40959⟩, ⟨some p44, .bin .neq (.t p41) (.t p43), some (p39, false), 131071⟩, ⟨some p45, .pick (.t p39) (.c (.bool true)) (.t p44), none, 262143⟩, ⟨some p46, .mov (.t p45), none, 524287⟩, ⟨some p47, .faddr 3 (.t p6), some (p46, false), 1048575⟩, ⟨some p48, .load1 (.t p47), some (p46, false), 2097151⟩, ⟨some p49, .faddr 3 (.t p7), some (p46, false), 1048575⟩, ⟨some p50, .load1 (.t p49), some (p46, false), 5242879⟩, ⟨some p51, .bin .neq (.t p48) (.t p50), some (p46, false), 16777215⟩, ⟨some p52, .pick (.t p46) (.c (.bool true)) (.t p51), none, 33554431⟩, ⟨some p53, .mov (.t p52), none, 67108863⟩, ⟨some p54, .faddr 4 (.t p6), some (p53, false), 134217727⟩, ⟨some p55, .load1 (.t p54), some (p53, false), 268435455⟩, ⟨some p56, .faddr 4 (.t p7), some (p53, false), 134217727⟩, ⟨some p57, .load1 (.t p56), some (p53, false), 671088639⟩, ⟨some p58, .bin .neq (.t p55) (.t p57), some (p53, false), 2147483647⟩, ⟨some p59, .pick (.t p53) (.c (.bool true)) (.t p58), none, 4294967295⟩, ⟨some p60, .mov (.t p59), none, 8589934591⟩, ⟨some p61, .faddr 5 (.t p6), some (p60, false), 17179869183⟩, ⟨some p62, .load1 (.t p61), some (p60, false), 34359738367⟩, ⟨some p63, .faddr 5 (.t p7), some (p60, false), 17179869183⟩, ⟨some p64, .load1 (.t p63), some (p60, false), 85899345919⟩, ⟨some p65, .bin .neq (.t p62) (.t p64), some (p60, false), 274877906943⟩, ⟨some p66, .pick (.t p60) (.c (.bool true)) (.t p65), none, 549755813887⟩, ⟨some p67, .mov (.t p66), none, 1099511627775⟩, ⟨some p68, .faddr 6 (.t p6), some (p67, false), 2199023255551⟩, ⟨some p69, .load1 (.t p68), some (p67, false), 4398046511103⟩, ⟨some p70, .faddr 6 (.t p7), some (p67, false), 2199023255551⟩, ⟨some p71, .load1 (.t p70), some (p67, false), 10995116277759⟩, ⟨some p72, .eq true .bool (.t p69) (.t p71), some (p67, false), 35184372088831⟩, ⟨some p73, .pick (.t p67) (.c (.bool true)) (.t p72), none, 70368744177663⟩, ⟨some p74, .mov (.t p73), none, 140737488355327⟩, ⟨some p75, .faddr 7 (.t p6), some (p74, false), 281474976710655⟩, ⟨some p76, .load1 (.t p75), some (p74, false), 562949953421311⟩, ⟨some p77, .faddr 7 (.t p7), some (p74, false), 281474976710655⟩, ⟨some p78, .load1 (.t p77), some (p74, false), 1407374883553279⟩, ⟨some p79, .call (.c (.fn 24 [] [])) [(.t p76), (.t p78)], some (p74, false), 4503599627370495⟩, ⟨some p80, .un .not (.t p79), some (p74, false), 9007199254740991⟩, ⟨some p81, .pick (.t p74) (.c (.bool true)) (.t p80), none, 18014398509481983⟩, ⟨some p82, .mov (.t p81), none, 36028797018963967⟩, ⟨some p83, .faddr 8 (.t p6), some (p82, false), 72057594037927935⟩, ⟨some p84, .load1 (.t p83), some (p82, false), 144115188075855871⟩, ⟨some p85, .faddr 8 (.t p7), some (p82, false), 72057594037927935⟩, ⟨some p86, .load1 (.t p85), some (p82, false), 360287970189639679⟩, ⟨some p87, .call (.c (.fn 24 [] [])) [(.t p84), (.t p86)], some (p82, false), 1152921504606846975⟩, ⟨some p88, .un .not (.t p87), some (p82, false), 2305843009213693951⟩, ⟨some p89, .pick (.t p82) (.c (.bool true)) (.t p88), none, 4611686018427387903⟩] false)
 (.cond (.t p89) (.seq (.region [⟨some p4, .mov (.c (.bool false)), none, 0⟩] false)
 .ret) .skip))))
 (.region [⟨some p17, .mov (.t p5), none, 0⟩, ⟨some p18, .bin .add (.t p17) (.c (.int .i64 (.ofNat 1))), none, 1⟩, ⟨some p5, .mov (.t p18), none, 3⟩] false))))))
 (.seq (.region [⟨some p4, .mov (.c (.bool true)), none, 0⟩] false)
 .ret)))) }
theorem ok16 : cFn Tryd.prog 16 = some ef16 := by kernel_rfl
/-- history.Same -/
def ef17 : EFn := { id := 17, N := 8, res := [(p4, none)], code := (.seq (.region [⟨some p4, .mov (.c (.bool false)), none, 0⟩] false)
 (.seq (.region [⟨some p5, .mov (.t p0), none, 0⟩, ⟨some p6, .mov (.t p1), none, 0⟩, ⟨some p7, .call (.c (.fn 25 [] [])) [(.t p5), (.t p6), (.c (.fn 26 [] []))], none, 3⟩, ⟨some p4, .mov (.t p7), none, 7⟩] false)
 .ret)) }
theorem ok17 : cFn Tryd.prog 17 = some ef17 := by kernel_rfl
/-- seesawref10.Numbers -/
def ef18 : EFn := { id := 18, N := 26, res := [(p4, none)], code := (.seq (.region [⟨some p4, .mov (.c (.bool false)), none, 0⟩] false)
 (.seq (.seq (.region [⟨some p6, .mov (.t p0), none, 0⟩, ⟨some p7, .len false (.t p6), none, 1⟩, ⟨some p8, .mov (.t p1), none, 0⟩, ⟨some p9, .len false (.t p8), none, 4⟩, ⟨some p10, .bin .neq (.t p7) (.t p9), none, 15⟩] false)
 (.cond (.t p10) (.seq (.region [⟨some p4, .mov (.c (.bool false)), none, 0⟩] false)
 .ret) .skip))
 (.seq (.seq (.region [⟨some p5, .mov (.c (.int .i64 (.ofNat 0))), none, 0⟩] false)
 (.block 0 (.loop (.seq (.seq (.region [⟨some p11, .mov (.t p5), none, 0⟩, ⟨some p12, .mov (.t p0), none, 0⟩, ⟨some p13, .len false (.t p12), none, 2⟩, ⟨some p14, .bin .lss (.t p11) (.t p13), none, 7⟩] false)
 (.cond (.t p14) .skip (.exit 0)))
 (.seq (.block 1 (.seq (.region [⟨some p17, .mov (.t p0), none, 0⟩, ⟨some p18, .mov (.t p5), none, 0⟩, ⟨some p19, .iaddrS 1 (.t p17) (.t p18), none, 3⟩, ⟨some p20, .load1 (.t p19), none, 7⟩, ⟨some p21, .mov (.t p1), none, 0⟩, ⟨some p22, .mov (.t p5), none, 0⟩, ⟨some p23, .iaddrS 1 (.t p21) (.t p22), none, 48⟩, ⟨some p24, .load1 (.t p23), none, 112⟩, ⟨some p25, .bin .neq (.t p20) (.t p24), none, 255⟩] true)
 (.cond (.t p25) (.seq (.region [⟨some p4, .mov (.c (.bool false)), none, 0⟩] false)
 .ret) .skip)))
 (.region [⟨some p15, .mov (.t p5), none, 0⟩, ⟨some p16, .bin .add (.t p15) (.c (.int .i64 (.ofNat 1))), none, 1⟩, ⟨some p5, .mov (.t p16), none, 3⟩] false))))))
 (.seq (.region [⟨some p4, .mov (.c (.bool true)), none, 0⟩] false)
 .ret)))) }
theorem ok18 : cFn Tryd.prog 18 = some ef18 := by kernel_rfl
/-- history.events -/
def ef21 : EFn := { id := 21, N := 4, res := [(p2, none)], code := (.seq (.region [⟨some p1, .box (.t p0), none, 0⟩, ⟨some p2, .mov (.c .nilf), none, 0⟩] false)
 (.seq (.region [⟨some p3, .mkfn 29 [] [(.t p1)], none, 0⟩, ⟨some p2, .mov (.t p3), none, 1⟩] false)
 .ret)) }
theorem ok21 : cFn Tryd.prog 21 = some ef21 := by kernel_rfl
/-- shape.New -/
def ef22 : EFn := { id := 22, N := 40, res := [(p6, none), (p7, none)], code := (.seq (.region [⟨some p6, .mov (.c .nilp), none, 0⟩, ⟨some p7, .mov (.c (.int .i64 (.ofNat 0))), none, 1⟩] false)
 (.seq (.seq (.region [⟨some p8, .mov (.t p0), none, 0⟩, ⟨some p9, .bin .lss (.t p8) (.c (.int .i64 (.ofNat 0))), none, 1⟩, ⟨some p10, .mov (.t p9), none, 3⟩, ⟨some p11, .mov (.t p0), some (p10, false), 7⟩, ⟨some p12, .bin .gtr (.t p11) (.c (.int .i64 (.ofNat 6))), some (p10, false), 15⟩, ⟨some p13, .pick (.t p10) (.c (.bool true)) (.t p12), none, 31⟩, ⟨some p14, .mov (.t p13), none, 63⟩, ⟨some p15, .mov (.t p1), some (p14, false), 127⟩, ⟨some p16, .bin .lss (.t p15) (.c (.int .i64 (.ofNat 1))), some (p14, false), 255⟩, ⟨some p17, .pick (.t p14) (.c (.bool true)) (.t p16), none, 511⟩, ⟨some p18, .mov (.t p17), none, 1023⟩, ⟨some p19, .mov (.t p1), some (p18, false), 2047⟩, ⟨some p20, .bin .gtr (.t p19) (.c (.int .i64 (.ofNat 32))), some (p18, false), 4095⟩, ⟨some p21, .pick (.t p18) (.c (.bool true)) (.t p20), none, 8191⟩, ⟨some p22, .mov (.t p21), none, 16383⟩, ⟨some p23, .mov (.t p2), some (p22, false), 32767⟩, ⟨some p24, .bin .lss (.t p23) (.c (.int .i64 (.ofNat 1))), some (p22, false), 65535⟩, ⟨some p25, .pick (.t p22) (.c (.bool true)) (.t p24), none, 131071⟩, ⟨some p26, .mov (.t p25), none, 262143⟩, ⟨some p27, .mov (.t p2), some (p26, false), 524287⟩, ⟨some p28, .mov (.t p1), some (p26, false), 524287⟩, ⟨some p29, .bin .gtr (.t p27) (.t p28), some (p26, false), 2097151⟩, ⟨some p30, .pick (.t p26) (.c (.bool true)) (.t p29), none, 4194303⟩] false)
 (.cond (.t p30) (.seq (.region [⟨some p6, .mov (.c .nilp), none, 0⟩, ⟨some p7, .mov (.c (.int .i64 (.ofNat 1))), none, 1⟩] false)
 .ret) .skip))
 (.seq (.region [⟨some p31, .mov (.t p1), none, 0⟩, ⟨some p32, .mov (.t p0), none, 0⟩, ⟨some p33, .mksl [(.int .i64 (.ofNat 0)), (.int .i64 (.ofNat 0)), (.int .i64 (.ofNat 0)), (.int .i64 (.ofNat 0)), (.int .i64 (.ofNat 0)), (.int .i64 (.ofNat 0)), (.int .u32 (.ofNat 0)), (.int .u32 (.ofNat 0)), (.int .u32 (.ofNat 0)), (.int .u32 (.ofNat 0)), (.int .i64 (.ofNat 0)), (.int .i64 (.ofNat 0)), (.bool false)] 88 (.t p32) (.t p32), none, 2⟩, ⟨some p34, .build [(.int .i64 (.ofNat 0)), (.int .i64 (.ofNat 0))] [(0, 1, (.c (.int .i64 (.negSucc 0))))], none, 0⟩, ⟨some p35, .buildSl [(.int .i64 (.ofNat 0)), (.int .i64 (.ofNat 0))] 1 [(0, 2, (.t p34))], none, 8⟩, ⟨some p36, .mov (.t p2), none, 0⟩, ⟨some p37, .call (.c (.fn 30 [] [])) [(.t p35), (.t p36)], none, 56⟩, ⟨some p38, .build [(.int .i64 (.ofNat 0)), (.int .i64 (.ofNat 0)), (.int .i64 (.ofNat 0)), .nils, .nils] [(0, 1, (.t p31)), (3, 1, (.t p33)), (4, 1, (.t p37))], none, 127⟩, ⟨some p39, .box (.t p38), none, 255⟩, ⟨some p6, .mov (.t p39), none, 511⟩, ⟨some p7, .mov (.c (.int .i64 (.ofNat 0))), none, 1023⟩] true)
 .ret))) }
theorem ok22 : cFn Tryd.prog 22 = some ef22 := by kernel_rfl
/-- (*shape.Checker).Next -/
def ef23 : EFn := { id := 23, N := 56, res := [(p4, none)], code := (.seq (.region [⟨some p3, .box (.t p1), none, 0⟩, ⟨some p4, .mov (.c (.int .i64 (.ofNat 0))), none, 0⟩] false)
 (.seq (.block 0 (.seq (.region [⟨some p7, .mov (.t p0), none, 0⟩, ⟨some p8, .eq false .nilP (.t p7) (.c .nilp), none, 1⟩, ⟨some p6, .mov (.t p8), none, 3⟩] false)
 (.cond (.t p6) (.seq (.region [⟨some p4, .mov (.c (.int .i64 (.ofNat 2))), none, 0⟩] false)
 .ret) (.seq (.region [⟨some p10, .mov (.t p0), none, 0⟩, ⟨some p11, .nilck (.t p10), none, 1⟩, ⟨some p12, .faddr 2 (.t p11), none, 3⟩, ⟨some p13, .load1 (.t p12), none, 7⟩, ⟨some p14, .bin .geq (.t p13) (.c (.int .i64 (.ofNat 1048576))), none, 15⟩, ⟨some p9, .mov (.t p14), none, 31⟩] false)
 (.cond (.t p9) (.seq (.region [⟨some p4, .mov (.c (.int .i64 (.ofNat 40))), none, 0⟩] false)
 .ret) (.seq (.region [⟨some p16, .loadN 7 (.t p3), none, 0⟩, ⟨some p17, .mov (.t p0), none, 0⟩, ⟨some p18, .nilck (.t p17), none, 2⟩, ⟨some p19, .faddr 3 (.t p18), none, 6⟩, ⟨some p20, .load1 (.t p19), none, 14⟩, ⟨some p21, .len false (.t p20), none, 30⟩, ⟨some p22, .mov (.t p0), none, 0⟩, ⟨some p23, .nilck (.t p22), none, 64⟩, ⟨some p24, .faddr 0 (.t p23), none, 192⟩, ⟨some p25, .load1 (.t p24), none, 448⟩, ⟨some p26, .mov (.t p0), none, 0⟩, ⟨some p27, .nilck (.t p26), none, 1024⟩, ⟨some p28, .faddr 4 (.t p27), none, 3072⟩, ⟨some p29, .load1 (.t p28), none, 7168⟩, ⟨some p30, .len false (.t p29), none, 15360⟩, ⟨some p31, .call (.c (.fn 31 [] [])) [(.t p16), (.t p21), (.t p25), (.t p30)], none, 32767⟩, ⟨some p32, .un .not (.t p31), none, 65535⟩, ⟨some p15, .mov (.t p32), none, 131071⟩] true)
 (.cond (.t p15) (.seq (.region [⟨some p4, .mov (.c (.int .i64 (.ofNat 4))), none, 0⟩] false)
 .ret) .skip)))))))
 (.seq (.region [⟨some p33, .build [.nilf, .nilf, .nilf, .nilf, .nilf, .nilf, .nilf, .nilf, .nilf, .nilf, .nilf, .nilf, .nilf, .nilf] [(1, 1, (.c (.fn 32 [] []))), (2, 1, (.c (.fn 33 [] []))), (3, 1, (.c (.fn 34 [] []))), (4, 1, (.c (.fn 35 [] []))), (5, 1, (.c (.fn 36 [] []))), (6, 1, (.c (.fn 37 [] []))), (7, 1, (.c (.fn 38 [] []))), (8, 1, (.c (.fn 39 [] []))), (9, 1, (.c (.fn 40 [] []))), (10, 1, (.c (.fn 41 [] []))), (11, 1, (.c (.fn 42 [] []))), (12, 1, (.c (.fn 43 [] []))), (13, 1, (.c (.fn 44 [] [])))], none, 0⟩, ⟨some p5, .alloc [.nilf, .nilf, .nilf, .nilf, .nilf, .nilf, .nilf, .nilf, .nilf, .nilf, .nilf, .nilf, .nilf, .nilf], none, 0⟩, ⟨none, .store 14 (.t p5) (.t p33), none, 3⟩] false)
 (.seq (.seq (.region [⟨some p34, .faddr 0 (.t p3), none, 0⟩, ⟨some p35, .load1 (.t p34), none, 1⟩, ⟨some p36, .iaddrA 14 1 (.t p5) (.t p35), none, 3⟩, ⟨some p37, .load1 (.t p36), none, 7⟩, ⟨some p38, .mov (.t p0), none, 0⟩, ⟨some p39, .mov (.t p0), none, 0⟩, ⟨some p40, .nilck (.t p39), none, 32⟩, ⟨some p41, .faddr 3 (.t p40), none, 96⟩, ⟨some p42, .load1 (.t p41), none, 224⟩, ⟨some p43, .faddr 1 (.t p3), none, 0⟩, ⟨some p44, .load1 (.t p43), none, 512⟩, ⟨some p45, .iaddrS 13 (.t p42) (.t p44), none, 2016⟩, ⟨some p46, .loadN 7 (.t p3), none, 0⟩, ⟨some p47, .call (.t p37) [(.t p38), (.t p45), (.t p46)], none, 8191⟩, ⟨some p48, .un .not (.t p47), none, 16383⟩] true)
 (.cond (.t p48) (.seq (.region [⟨some p4, .mov (.c (.int .i64 (.ofNat 4))), none, 0⟩] false)
 .ret) .skip))
 (.seq (.region [⟨some p49, .mov (.t p0), none, 0⟩, ⟨some p50, .nilck (.t p49), none, 1⟩, ⟨some p51, .faddr 2 (.t p50), none, 3⟩, ⟨some p52, .load1 (.t p51), none, 7⟩, ⟨some p53, .bin .add (.t p52) (.c (.int .i64 (.ofNat 1))), none, 15⟩, ⟨some p54, .nilck (.t p49), none, 31⟩, ⟨some p55, .faddr 2 (.t p54), none, 63⟩, ⟨none, .store 1 (.t p55) (.t p53), none, 127⟩] false)
 (.seq (.region [⟨some p4, .mov (.c (.int .i64 (.ofNat 0))), none, 0⟩] false)
 .ret)))))) }
theorem ok23 : cFn Tryd.prog 23 = some ef23 := by kernel_rfl
/-- seesawref08.Pairs -/
def ef24 : EFn := { id := 24, N := 26, res := [(p4, none)], code := (.seq (.region [⟨some p4, .mov (.c (.bool false)), none, 0⟩] false)
 (.seq (.seq (.region [⟨some p6, .mov (.t p0), none, 0⟩, ⟨some p7, .len false (.t p6), none, 1⟩, ⟨some p8, .mov (.t p1), none, 0⟩, ⟨some p9, .len false (.t p8), none, 4⟩, ⟨some p10, .bin .neq (.t p7) (.t p9), none, 15⟩] false)
 (.cond (.t p10) (.seq (.region [⟨some p4, .mov (.c (.bool false)), none, 0⟩] false)
 .ret) .skip))
 (.seq (.seq (.region [⟨some p5, .mov (.c (.int .i64 (.ofNat 0))), none, 0⟩] false)
 (.block 0 (.loop (.seq (.seq (.region [⟨some p11, .mov (.t p5), none, 0⟩, ⟨some p12, .mov (.t p0), none, 0⟩, ⟨some p13, .len false (.t p12), none, 2⟩, ⟨some p14, .bin .lss (.t p11) (.t p13), none, 7⟩] false)
 (.cond (.t p14) .skip (.exit 0)))
 (.seq (.block 1 (.seq (.region [⟨some p17, .mov (.t p0), none, 0⟩, ⟨some p18, .mov (.t p5), none, 0⟩, ⟨some p19, .iaddrS 2 (.t p17) (.t p18), none, 3⟩, ⟨some p20, .loadN 2 (.t p19), none, 7⟩, ⟨some p21, .mov (.t p1), none, 0⟩, ⟨some p22, .mov (.t p5), none, 0⟩, ⟨some p23, .iaddrS 2 (.t p21) (.t p22), none, 48⟩, ⟨some p24, .loadN 2 (.t p23), none, 112⟩, ⟨some p25, .eq true (.ints [0, 1]) (.t p20) (.t p24), none, 255⟩] true)
 (.cond (.t p25) (.seq (.region [⟨some p4, .mov (.c (.bool false)), none, 0⟩] false)
 .ret) .skip)))
 (.region [⟨some p15, .mov (.t p5), none, 0⟩, ⟨some p16, .bin .add (.t p15) (.c (.int .i64 (.ofNat 1))), none, 1⟩, ⟨some p5, .mov (.t p16), none, 3⟩] false))))))
 (.seq (.region [⟨some p4, .mov (.c (.bool true)), none, 0⟩] false)
 .ret)))) }
theorem ok24 : cFn Tryd.prog 24 = some ef24 := by kernel_rfl
/-- slices.EqualFunc[[]api.Attempt,[]api.Attempt,api.Attempt,api.Attempt] -/
def ef25 : EFn := { id := 25, N := 32, res := [(p6, none)], code := (.seq (.region [⟨some p6, .mov (.c (.bool false)), none, 0⟩] false)
 (.seq (.seq (.region [⟨some p10, .mov (.t p0), none, 0⟩, ⟨some p11, .len false (.t p10), none, 1⟩, ⟨some p12, .mov (.t p1), none, 0⟩, ⟨some p13, .len false (.t p12), none, 4⟩, ⟨some p14, .bin .neq (.t p11) (.t p13), none, 15⟩] false)
 (.cond (.t p14) (.seq (.region [⟨some p6, .mov (.c (.bool false)), none, 0⟩] false)
 .ret) .skip))
 (.seq (.seq (.region [⟨some p15, .mov (.t p0), none, 0⟩, ⟨some p16, .len false (.t p15), none, 1⟩, ⟨some p17, .mov (.c (.int .i64 (.ofNat 0))), none, 0⟩] false)
 (.block 0 (.loop (.seq (.region [⟨some p18, .bin .lss (.t p17) (.t p16), none, 0⟩] false)
 (.seq (.cond (.t p18) .skip (.exit 0))
 (.seq (.block 1 (.seq (.region [⟨some p19, .mov (.t p17), none, 0⟩, ⟨some p20, .iaddrS 9 (.t p15) (.t p17), none, 0⟩, ⟨some p21, .loadN 9 (.t p20), none, 2⟩, ⟨some p8, .alloc [(.int .i64 (.ofNat 0)), (.int .i64 (.ofNat 0)), (.int .i64 (.ofNat 0)), (.int .i64 (.ofNat 0)), (.int .i64 (.ofNat 0)), (.int .i64 (.ofNat 0)), (.bool false), .nils, .nils], none, 0⟩, ⟨some p7, .mov (.t p19), none, 15⟩, ⟨none, .store 9 (.t p8) (.t p21), none, 31⟩] false)
 (.seq (.region [⟨some p22, .mov (.t p1), none, 0⟩, ⟨some p23, .mov (.t p7), none, 0⟩, ⟨some p24, .iaddrS 9 (.t p22) (.t p23), none, 3⟩, ⟨some p25, .loadN 9 (.t p24), none, 7⟩, ⟨some p9, .alloc [(.int .i64 (.ofNat 0)), (.int .i64 (.ofNat 0)), (.int .i64 (.ofNat 0)), (.int .i64 (.ofNat 0)), (.int .i64 (.ofNat 0)), (.int .i64 (.ofNat 0)), (.bool false), .nils, .nils], none, 0⟩, ⟨none, .store 9 (.t p9) (.t p25), none, 31⟩] false)
 (.seq (.region [⟨some p26, .mov (.t p2), none, 0⟩, ⟨some p27, .loadN 9 (.t p8), none, 0⟩, ⟨some p28, .loadN 9 (.t p9), none, 0⟩, ⟨some p29, .call (.t p26) [(.t p27), (.t p28)], none, 7⟩, ⟨some p30, .un .not (.t p29), none, 15⟩] false)
 (.cond (.t p30) (.seq (.region [⟨some p6, .mov (.c (.bool false)), none, 0⟩] false)
 .ret) .skip)))))
 (.region [⟨some p31, .bin .add (.t p17) (.c (.int .i64 (.ofNat 1))), none, 0⟩, ⟨some p17, .mov (.t p31), none, 1⟩] false)))))))
 (.seq (.region [⟨some p6, .mov (.c (.bool true)), none, 0⟩] false)
 .ret)))) }
theorem ok25 : cFn Tryd.prog 25 = some ef25 := by kernel_rfl
/-- history.same -/
def ef26 : EFn := { id := 26, N := 66, res := [(p4, none)], code := (.seq (.region [⟨some p2, .box (.t p0), none, 0⟩, ⟨some p3, .box (.t p1), none, 0⟩, ⟨some p4, .mov (.c (.bool false)), none, 0⟩] false)
 (.seq (.region [⟨some p5, .faddr 0 (.t p2), none, 0⟩, ⟨some p6, .load1 (.t p5), none, 1⟩, ⟨some p7, .faddr 0 (.t p3), none, 0⟩, ⟨some p8, .load1 (.t p7), none, 4⟩, ⟨some p9, .bin .eql (.t p6) (.t p8), none, 15⟩, ⟨some p10, .mov (.t p9), none, 31⟩, ⟨some p11, .faddr 1 (.t p2), some (p10, true), 63⟩, ⟨some p12, .load1 (.t p11), some (p10, true), 127⟩, ⟨some p13, .faddr 1 (.t p3), some (p10, true), 63⟩, ⟨some p14, .load1 (.t p13), some (p10, true), 319⟩, ⟨some p15, .bin .eql (.t p12) (.t p14), some (p10, true), 1023⟩, ⟨some p16, .pick (.t p10) (.t p15) (.c (.bool false)), none, 2047⟩, ⟨some p17, .mov (.t p16), none, 4095⟩, ⟨some p18, .faddr 2 (.t p2), some (p17, true), 8191⟩, ⟨some p19, .load1 (.t p18), some (p17, true), 16383⟩, ⟨some p20, .faddr 2 (.t p3), some (p17, true), 8191⟩, ⟨some p21, .load1 (.t p20), some (p17, true), 40959⟩, ⟨some p22, .bin .eql (.t p19) (.t p21), some (p17, true), 131071⟩, ⟨some p23, .pick (.t p17) (.t p22) (.c (.bool false)), none, 262143⟩, ⟨some p24, .mov (.t p23), none, 524287⟩, ⟨some p25, .faddr 3 (.t p2), some (p24, true), 1048575⟩, ⟨some p26, .load1 (.t p25), some (p24, true), 2097151⟩, ⟨some p27, .faddr 3 (.t p3), some (p24, true), 1048575⟩, ⟨some p28, .load1 (.t p27), some (p24, true), 5242879⟩, ⟨some p29, .bin .eql (.t p26) (.t p28), some (p24, true), 16777215⟩, ⟨some p30, .pick (.t p24) (.t p29) (.c (.bool false)), none, 33554431⟩, ⟨some p31, .mov (.t p30), none, 67108863⟩, ⟨some p32, .faddr 4 (.t p2), some (p31, true), 134217727⟩, ⟨some p33, .load1 (.t p32), some (p31, true), 268435455⟩, ⟨some p34, .faddr 4 (.t p3), some (p31, true), 134217727⟩, ⟨some p35, .load1 (.t p34), some (p31, true), 671088639⟩, ⟨some p36, .bin .eql (.t p33) (.t p35), some (p31, true), 2147483647⟩, ⟨some p37, .pick (.t p31) (.t p36) (.c (.bool false)), none, 4294967295⟩, ⟨some p38, .mov (.t p37), none, 8589934591⟩, ⟨some p39, .faddr 5 (.t p2), some (p38, true), 17179869183⟩, ⟨some p40, .load1 (.t p39), some (p38, true), 34359738367⟩, ⟨some p41, .faddr 5 (.t p3), some (p38, true), 17179869183⟩, ⟨some p42, .load1 (.t p41), some (p38, true), 85899345919⟩, ⟨some p43, .bin .eql (.t p40) (.t p42), some (p38, true), 274877906943⟩, ⟨some p44, .pick (.t p38) (.t p43) (.c (.bool false)), none, 549755813887⟩, ⟨some p45, .mov (.t p44), none, 1099511627775⟩, ⟨some p46, .faddr 6 (.t p2), some (p45, true), 2199023255551⟩, ⟨some p47, .load1 (.t p46), some (p45, true), 4398046511103⟩, ⟨some p48, .faddr 6 (.t p3), some (p45, true), 2199023255551⟩, ⟨some p49, .load1 (.t p48), some (p45, true), 10995116277759⟩, ⟨some p50, .eq false .bool (.t p47) (.t p49), some (p45, true), 35184372088831⟩, ⟨some p51, .pick (.t p45) (.t p50) (.c (.bool false)), none, 70368744177663⟩, ⟨some p52, .mov (.t p51), none, 140737488355327⟩, ⟨some p53, .faddr 7 (.t p2), some (p52, true), 281474976710655⟩, ⟨some p54, .load1 (.t p53), some (p52, true), 562949953421311⟩, ⟨some p55, .faddr 7 (.t p3), some (p52, true), 281474976710655⟩, ⟨some p56, .load1 (.t p55), some (p52, true), 1407374883553279⟩, ⟨some p57, .call (.c (.fn 45 [] [])) [(.t p54), (.t p56)], some (p52, true), 4503599627370495⟩, ⟨some p58, .pick (.t p52) (.t p57) (.c (.bool false)), none, 9007199254740991⟩, ⟨some p59, .mov (.t p58), none, 18014398509481983⟩, ⟨some p60, .faddr 8 (.t p2), some (p59, true), 36028797018963967⟩, ⟨some p61, .load1 (.t p60), some (p59, true), 72057594037927935⟩, ⟨some p62, .faddr 8 (.t p3), some (p59, true), 36028797018963967⟩, ⟨some p63, .load1 (.t p62), some (p59, true), 180143985094819839⟩, ⟨some p64, .call (.c (.fn 45 [] [])) [(.t p61), (.t p63)], some (p59, true), 576460752303423487⟩, ⟨some p65, .pick (.t p59) (.t p64) (.c (.bool false)), none, 1152921504606846975⟩, ⟨some p4, .mov (.t p65), none, 2305843009213693951⟩] false)
 .ret)) }
theorem ok26 : cFn Tryd.prog 26 = some ef26 := by kernel_rfl
/-- history.events$1 -/
def ef29 : EFn := { id := 29, N := 40, res := [], code := (.seq (.region [⟨some p8, .mkmap, none, 0⟩, ⟨some p3, .mov (.t p8), none, 1⟩] false)
 (.seq (.region [⟨some p4, .mov (.c (.int .i64 (.ofNat 0))), none, 0⟩] false)
 (.seq (.region [⟨some p9, .faddr 3 (.t p1), none, 0⟩, ⟨some p10, .load1 (.t p9), none, 1⟩, ⟨some p11, .len false (.t p10), none, 3⟩, ⟨some p12, .mov (.c (.int .i64 (.ofNat 0))), none, 0⟩] false)
 (.block 0 (.loop (.seq (.region [⟨some p13, .bin .lss (.t p12) (.t p11), none, 0⟩] false)
 (.seq (.cond (.t p13) .skip (.exit 0))
 (.seq (.block 1 (.seq (.region [⟨some p14, .mov (.t p12), none, 0⟩, ⟨some p15, .iaddrS 7 (.t p10) (.t p12), none, 0⟩, ⟨some p16, .loadN 7 (.t p15), none, 2⟩, ⟨some p6, .alloc [(.int .u8 (.ofNat 0)), (.int .i64 (.ofNat 0)), (.int .i64 (.ofNat 0)), (.int .i64 (.ofNat 0)), (.int .i64 (.ofNat 0)), (.int .i64 (.ofNat 0)), (.int .u8 (.ofNat 0))], none, 0⟩, ⟨some p5, .mov (.t p14), none, 15⟩, ⟨none, .store 7 (.t p6) (.t p16), none, 31⟩] false)
 (.seq (.region [⟨some p7, .mov (.c (.int .i64 (.negSucc 0))), none, 0⟩] false)
 (.seq (.seq (.region [⟨some p17, .faddr 0 (.t p6), none, 0⟩, ⟨some p18, .load1 (.t p17), none, 1⟩] false)
 (.block 2 (.seq (.region [⟨some p24, .bin .eql (.t p18) (.c (.int .u8 (.ofNat 1))), none, 0⟩, ⟨some p23, .mov (.t p24), none, 1⟩] false)
 (.cond (.t p23) (.seq (.region [⟨some p25, .mov (.t p3), none, 0⟩, ⟨some p26, .faddr 1 (.t p6), none, 0⟩, ⟨some p27, .load1 (.t p26), none, 2⟩, ⟨some p28, .mov (.t p4), none, 0⟩, ⟨none, .mapup (.t p25) (.t p27) (.t p28), none, 15⟩] false)
 (.seq (.region [⟨some p29, .mov (.t p4), none, 0⟩, ⟨some p7, .mov (.t p29), none, 1⟩] false)
 (.region [⟨some p30, .mov (.t p4), none, 0⟩, ⟨some p31, .bin .add (.t p30) (.c (.int .i64 (.ofNat 1))), none, 1⟩, ⟨some p4, .mov (.t p31), none, 3⟩] false))) (.seq (.region [⟨some p33, .bin .eql (.t p18) (.c (.int .u8 (.ofNat 13))), none, 0⟩, ⟨some p32, .mov (.t p33), none, 1⟩] false)
 (.cond (.t p32) .skip (.region [⟨some p19, .mov (.t p3), none, 0⟩, ⟨some p20, .faddr 1 (.t p6), none, 0⟩, ⟨some p21, .load1 (.t p20), none, 2⟩, ⟨some p22, .lookup (.int .i64 (.ofNat 0)) false (.t p19) (.t p21), none, 7⟩, ⟨some p7, .mov (.t p22), none, 15⟩] false)))))))
 (.seq (.region [⟨some p34, .mov (.t p0), none, 0⟩, ⟨some p35, .mov (.t p5), none, 0⟩, ⟨some p36, .mov (.t p7), none, 0⟩, ⟨some p37, .call (.t p34) [(.t p35), (.t p36)], none, 7⟩, ⟨some p38, .un .not (.t p37), none, 15⟩] false)
 (.cond (.t p38) .ret .skip))))))
 (.region [⟨some p39, .bin .add (.t p12) (.c (.int .i64 (.ofNat 1))), none, 0⟩, ⟨some p12, .mov (.t p39), none, 1⟩] false))))))))) }
theorem ok29 : cFn Tryd.prog 29 = some ef29 := by kernel_rfl
/-- slices.Repeat[[]shape.stripe,shape.stripe] -/
def ef30 : EFn := { id := 30, N := 48, res := [(p4, none)], code := (.seq (.region [⟨some p4, .mov (.c .nils), none, 0⟩] false)
 (.seq (.seq (.region [⟨some p9, .mov (.t p1), none, 0⟩, ⟨some p10, .bin .lss (.t p9) (.c (.int .i64 (.ofNat 0))), none, 1⟩] false)
 (.cond (.t p10) (.region [⟨some p11, .bad, none, 0⟩, ⟨none, .bad, none, 1⟩] false) .skip))
 (.seq (.region [⟨some p13, .mov (.t p0), none, 0⟩, ⟨some p14, .len false (.t p13), none, 1⟩, ⟨some p15, .conv .u64 (.t p14), none, 3⟩, ⟨some p16, .mov (.t p1), none, 0⟩, ⟨some p17, .conv .u64 (.t p16), none, 8⟩, ⟨some p18, .call (.c (.fn 48 [] [])) [(.t p15), (.t p17)], none, 31⟩, ⟨some p12, .mov (.t p18), none, 63⟩, ⟨some p19, .ext 0 (.t p12), none, 127⟩, ⟨some p20, .ext 1 (.t p12), none, 127⟩, ⟨some p5, .mov (.t p19), none, 255⟩, ⟨some p6, .mov (.t p20), none, 1023⟩] false)
 (.seq (.seq (.region [⟨some p21, .mov (.t p5), none, 0⟩, ⟨some p22, .bin .gtr (.t p21) (.c (.int .u64 (.ofNat 0))), none, 1⟩, ⟨some p23, .mov (.t p22), none, 3⟩, ⟨some p24, .mov (.t p6), some (p23, false), 7⟩, ⟨some p25, .bin .gtr (.t p24) (.c (.int .u64 (.ofNat 9223372036854775807))), some (p23, false), 15⟩, ⟨some p26, .pick (.t p23) (.c (.bool true)) (.t p25), none, 31⟩] false)
 (.cond (.t p26) (.region [⟨some p27, .bad, none, 0⟩, ⟨none, .bad, none, 1⟩] false) .skip))
 (.seq (.region [⟨some p28, .mov (.t p6), none, 0⟩, ⟨some p29, .conv .i64 (.t p28), none, 1⟩, ⟨some p30, .mksl [(.int .i64 (.ofNat 0)), (.int .i64 (.ofNat 0))] 16 (.t p29) (.t p29), none, 3⟩, ⟨some p7, .mov (.t p30), none, 7⟩] false)
 (.seq (.region [⟨some p31, .mov (.t p7), none, 0⟩, ⟨some p32, .mov (.t p0), none, 0⟩, ⟨some p33, .copy 2 (.t p31) (.t p32), none, 3⟩, ⟨some p8, .mov (.t p33), none, 7⟩] false)
 (.seq (.block 0 (.loop (.seq (.seq (.region [⟨some p34, .mov (.t p8), none, 0⟩, ⟨some p35, .mov (.t p7), none, 0⟩, ⟨some p36, .len false (.t p35), none, 2⟩, ⟨some p37, .bin .lss (.t p34) (.t p36), none, 7⟩] false)
 (.cond (.t p37) .skip (.exit 0)))
 (.block 1 (.region [⟨some p38, .mov (.t p8), none, 0⟩, ⟨some p39, .mov (.t p7), none, 0⟩, ⟨some p40, .mov (.t p8), none, 0⟩, ⟨some p41, .slc 2 (.t p39) (some (.t p40)) none, none, 6⟩, ⟨some p42, .mov (.t p7), none, 0⟩, ⟨some p43, .mov (.t p8), none, 0⟩, ⟨some p44, .slc 2 (.t p42) none (some (.t p43)), none, 48⟩, ⟨some p45, .copy 2 (.t p41) (.t p44), none, 126⟩, ⟨some p46, .bin .add (.t p38) (.t p45), none, 255⟩, ⟨some p8, .mov (.t p46), none, 511⟩] true)))))
 (.seq (.region [⟨some p47, .mov (.t p7), none, 0⟩, ⟨some p4, .mov (.t p47), none, 1⟩] false)
 .ret)))))))) }
theorem ok30 : cFn Tryd.prog 30 = some ef30 := by kernel_rfl
/-- (*shape.Checker).begin -/
def ef32 : EFn := { id := 32, N := 44, res := [(p6, none)], code := (.seq (.region [⟨some p5, .box (.t p2), none, 0⟩, ⟨some p6, .mov (.c (.bool false)), none, 0⟩] false)
 (.seq (.seq (.region [⟨some p7, .mov (.t p1), none, 0⟩, ⟨some p8, .nilck (.t p7), none, 1⟩, ⟨some p9, .faddr 0 (.t p8), none, 3⟩, ⟨some p10, .load1 (.t p9), none, 7⟩, ⟨some p11, .bin .neq (.t p10) (.c (.int .i64 (.ofNat 0))), none, 15⟩, ⟨some p12, .mov (.t p11), none, 31⟩, ⟨some p13, .faddr 2 (.t p5), some (p12, false), 63⟩, ⟨some p14, .load1 (.t p13), some (p12, false), 127⟩, ⟨some p15, .mov (.t p1), some (p12, false), 63⟩, ⟨some p16, .nilck (.t p15), some (p12, false), 319⟩, ⟨some p17, .faddr 1 (.t p16), some (p12, false), 831⟩, ⟨some p18, .load1 (.t p17), some (p12, false), 1855⟩, ⟨some p19, .bin .neq (.t p14) (.t p18), some (p12, false), 4095⟩, ⟨some p20, .pick (.t p12) (.c (.bool true)) (.t p19), none, 8191⟩, ⟨some p21, .mov (.t p20), none, 16383⟩, ⟨some p22, .faddr 4 (.t p5), some (p21, false), 32767⟩, ⟨some p23, .load1 (.t p22), some (p21, false), 65535⟩, ⟨some p24, .mov (.t p0), some (p21, false), 32767⟩, ⟨some p25, .nilck (.t p24), some (p21, false), 163839⟩, ⟨some p26, .faddr 1 (.t p25), some (p21, false), 425983⟩, ⟨some p27, .load1 (.t p26), some (p21, false), 950271⟩, ⟨some p28, .bin .lss (.t p23) (.t p27), some (p21, false), 2097151⟩, ⟨some p29, .pick (.t p21) (.c (.bool true)) (.t p28), none, 4194303⟩] true)
 (.cond (.t p29) (.seq (.region [⟨some p6, .mov (.c (.bool false)), none, 0⟩] false)
 .ret) .skip))
 (.seq (.region [⟨some p30, .mov (.t p0), none, 0⟩, ⟨some p31, .faddr 4 (.t p5), none, 0⟩, ⟨some p32, .load1 (.t p31), none, 2⟩, ⟨some p33, .nilck (.t p30), none, 7⟩, ⟨some p34, .faddr 1 (.t p33), none, 15⟩, ⟨none, .store 1 (.t p34) (.t p32), none, 31⟩] false)
 (.seq (.region [⟨some p35, .mov (.t p1), none, 0⟩, ⟨some p36, .mov (.t p1), none, 0⟩, ⟨some p37, .nilck (.t p36), none, 2⟩, ⟨some p38, .faddr 1 (.t p37), none, 6⟩, ⟨some p39, .load1 (.t p38), none, 14⟩, ⟨some p40, .faddr 4 (.t p5), none, 0⟩, ⟨some p41, .load1 (.t p40), none, 32⟩, ⟨some p42, .build [(.int .i64 (.ofNat 0)), (.int .i64 (.ofNat 0)), (.int .i64 (.ofNat 0)), (.int .i64 (.ofNat 0)), (.int .i64 (.ofNat 0)), (.int .i64 (.ofNat 0)), (.int .u32 (.ofNat 0)), (.int .u32 (.ofNat 0)), (.int .u32 (.ofNat 0)), (.int .u32 (.ofNat 0)), (.int .i64 (.ofNat 0)), (.int .i64 (.ofNat 0)), (.bool false)] [(0, 1, (.c (.int .i64 (.ofNat 1)))), (1, 1, (.t p39)), (2, 1, (.t p41)), (10, 1, (.c (.int .i64 (.negSucc 0)))), (11, 1, (.c (.int .i64 (.negSucc 0))))], none, 126⟩, ⟨some p43, .nilck (.t p35), none, 255⟩, ⟨none, .store 13 (.t p43) (.t p42), none, 511⟩] true)
 (.seq (.region [⟨some p6, .mov (.c (.bool true)), none, 0⟩] false)
 .ret))))) }
theorem ok32 : cFn Tryd.prog 32 = some ef32 := by kernel_rfl
/-- (*shape.Checker).look -/
def ef33 : EFn := { id := 33, N := 65, res := [(p6, none)], code := (.seq (.region [⟨some p5, .box (.t p2), none, 0⟩, ⟨some p6, .mov (.c (.bool false)), none, 0⟩] false)
 (.seq (.seq (.region [⟨some p7, .mov (.t p1), none, 0⟩, ⟨some p8, .nilck (.t p7), none, 1⟩, ⟨some p9, .faddr 0 (.t p8), none, 3⟩, ⟨some p10, .load1 (.t p9), none, 7⟩, ⟨some p11, .bin .neq (.t p10) (.c (.int .i64 (.ofNat 1))), none, 15⟩, ⟨some p12, .mov (.t p11), none, 31⟩, ⟨some p13, .mov (.t p0), some (p12, false), 63⟩, ⟨some p14, .faddr 3 (.t p5), some (p12, false), 63⟩, ⟨some p15, .load1 (.t p14), some (p12, false), 191⟩, ⟨some p16, .call (.c (.fn 52 [] [])) [(.t p13), (.t p15)], some (p12, false), 511⟩, ⟨some p17, .un .not (.t p16), some (p12, false), 1023⟩, ⟨some p18, .pick (.t p12) (.c (.bool true)) (.t p17), none, 2047⟩, ⟨some p19, .mov (.t p18), none, 4095⟩, ⟨some p20, .faddr 4 (.t p5), some (p19, false), 8191⟩, ⟨some p21, .load1 (.t p20), some (p19, false), 16383⟩, ⟨some p22, .mov (.t p0), some (p19, false), 8191⟩, ⟨some p23, .nilck (.t p22), some (p19, false), 40959⟩, ⟨some p24, .faddr 4 (.t p23), some (p19, false), 106495⟩, ⟨some p25, .load1 (.t p24), some (p19, false), 237567⟩, ⟨some p26, .faddr 3 (.t p5), some (p19, false), 8191⟩, ⟨some p27, .load1 (.t p26), some (p19, false), 532479⟩, ⟨some p28, .iaddrS 2 (.t p25) (.t p27), some (p19, false), 2072575⟩, ⟨some p29, .faddr 1 (.t p28), some (p19, false), 4169727⟩, ⟨some p30, .load1 (.t p29), some (p19, false), 8364031⟩, ⟨some p31, .bin .lss (.t p21) (.t p30), some (p19, false), 16777215⟩, ⟨some p32, .pick (.t p19) (.c (.bool true)) (.t p31), none, 33554431⟩, ⟨some p33, .mov (.t p32), none, 67108863⟩, ⟨some p34, .faddr 4 (.t p5), some (p33, false), 134217727⟩, ⟨some p35, .load1 (.t p34), some (p33, false), 268435455⟩, ⟨some p36, .mov (.t p1), some (p33, false), 134217727⟩, ⟨some p37, .nilck (.t p36), some (p33, false), 671088639⟩, ⟨some p38, .faddr 2 (.t p37), some (p33, false), 1744830463⟩, ⟨some p39, .load1 (.t p38), some (p33, false), 3892314111⟩, ⟨some p40, .bin .gtr (.t p35) (.t p39), some (p33, false), 8589934591⟩, ⟨some p41, .pick (.t p33) (.c (.bool true)) (.t p40), none, 17179869183⟩] true)
 (.cond (.t p41) (.seq (.region [⟨some p6, .mov (.c (.bool false)), none, 0⟩] false)
 .ret) .skip))
 (.seq (.region [⟨some p42, .mov (.t p0), none, 0⟩, ⟨some p43, .nilck (.t p42), none, 1⟩, ⟨some p44, .faddr 4 (.t p43), none, 3⟩, ⟨some p45, .load1 (.t p44), none, 7⟩, ⟨some p46, .faddr 3 (.t p5), none, 0⟩, ⟨some p47, .load1 (.t p46), none, 16⟩, ⟨some p48, .faddr 4 (.t p5), none, 0⟩, ⟨some p49, .load1 (.t p48), none, 64⟩, ⟨some p50, .iaddrS 2 (.t p45) (.t p47), none, 255⟩, ⟨some p51, .faddr 1 (.t p50), none, 511⟩, ⟨none, .store 1 (.t p51) (.t p49), none, 1023⟩] true)
 (.seq (.region [⟨some p52, .mov (.t p1), none, 0⟩, ⟨some p53, .mov (.t p1), none, 0⟩, ⟨some p54, .mov (.t p1), none, 0⟩, ⟨some p55, .faddr 3 (.t p5), none, 0⟩, ⟨some p56, .load1 (.t p55), none, 8⟩, ⟨some p57, .faddr 4 (.t p5), none, 0⟩, ⟨some p58, .load1 (.t p57), none, 32⟩, ⟨some p59, .nilck (.t p52), none, 1⟩, ⟨some p60, .faddr 0 (.t p59), none, 129⟩, ⟨none, .store 1 (.t p60) (.c (.int .i64 (.ofNat 2))), none, 385⟩, ⟨some p61, .nilck (.t p53), none, 923⟩, ⟨some p62, .faddr 4 (.t p61), none, 1947⟩, ⟨none, .store 1 (.t p62) (.t p56), none, 3995⟩, ⟨some p63, .nilck (.t p54), none, 8191⟩, ⟨some p64, .faddr 5 (.t p63), none, 16383⟩, ⟨none, .store 1 (.t p64) (.t p58), none, 32767⟩] true)
 (.seq (.region [⟨some p6, .mov (.c (.bool true)), none, 0⟩] false)
 .ret))))) }
theorem ok33 : cFn Tryd.prog 33 = some ef33 := by kernel_rfl
/-- (*shape.Checker).load -/
def ef34 : EFn := { id := 34, N := 48, res := [(p6, none)], code := (.seq (.region [⟨some p5, .box (.t p2), none, 0⟩, ⟨some p6, .mov (.c (.bool false)), none, 0⟩] false)
 (.seq (.seq (.region [⟨some p7, .mov (.t p1), none, 0⟩, ⟨some p8, .nilck (.t p7), none, 1⟩, ⟨some p9, .faddr 0 (.t p8), none, 3⟩, ⟨some p10, .load1 (.t p9), none, 7⟩, ⟨some p11, .bin .neq (.t p10) (.c (.int .i64 (.ofNat 2))), none, 15⟩, ⟨some p12, .mov (.t p11), none, 31⟩, ⟨some p13, .faddr 3 (.t p5), some (p12, false), 63⟩, ⟨some p14, .load1 (.t p13), some (p12, false), 127⟩, ⟨some p15, .mov (.t p0), some (p12, false), 63⟩, ⟨some p16, .nilck (.t p15), some (p12, false), 319⟩, ⟨some p17, .faddr 4 (.t p16), some (p12, false), 831⟩, ⟨some p18, .load1 (.t p17), some (p12, false), 1855⟩, ⟨some p19, .len false (.t p18), some (p12, false), 3903⟩, ⟨some p20, .bin .rem (.t p14) (.t p19), some (p12, false), 8191⟩, ⟨some p21, .mov (.t p1), some (p12, false), 63⟩, ⟨some p22, .nilck (.t p21), some (p12, false), 16447⟩, ⟨some p23, .faddr 4 (.t p22), some (p12, false), 49215⟩, ⟨some p24, .load1 (.t p23), some (p12, false), 114751⟩, ⟨some p25, .bin .neq (.t p20) (.t p24), some (p12, false), 262143⟩, ⟨some p26, .pick (.t p12) (.c (.bool true)) (.t p25), none, 524287⟩, ⟨some p27, .mov (.t p26), none, 1048575⟩, ⟨some p28, .mov (.t p0), some (p27, false), 2097151⟩, ⟨some p29, .mov (.t p1), some (p27, false), 2097151⟩, ⟨some p30, .call (.c (.fn 53 [] [])) [(.t p28), (.t p29)], some (p27, false), 8388607⟩, ⟨some p31, .un .not (.t p30), some (p27, false), 16777215⟩, ⟨some p32, .pick (.t p27) (.c (.bool true)) (.t p31), none, 33554431⟩] true)
 (.cond (.t p32) (.seq (.region [⟨some p6, .mov (.c (.bool false)), none, 0⟩] false)
 .ret) .skip))
 (.seq (.region [⟨some p33, .mov (.t p1), none, 0⟩, ⟨some p34, .nilck (.t p33), none, 1⟩, ⟨some p35, .faddr 0 (.t p34), none, 3⟩, ⟨none, .store 1 (.t p35) (.c (.int .i64 (.ofNat 1))), none, 7⟩] false)
 (.seq (.region [⟨some p36, .mov (.t p1), none, 0⟩, ⟨some p37, .nilck (.t p36), none, 1⟩, ⟨some p38, .faddr 6 (.t p37), none, 3⟩, ⟨some p39, .load1 (.t p38), none, 7⟩, ⟨some p40, .mov (.t p1), none, 0⟩, ⟨some p41, .nilck (.t p40), none, 16⟩, ⟨some p42, .faddr 4 (.t p41), none, 48⟩, ⟨some p43, .load1 (.t p42), none, 112⟩, ⟨some p44, .bin .shl (.c (.int .u32 (.ofNat 1))) (.t p43), none, 240⟩, ⟨some p45, .bin .or (.t p39) (.t p44), none, 511⟩, ⟨some p46, .nilck (.t p36), none, 1023⟩, ⟨some p47, .faddr 6 (.t p46), none, 2047⟩, ⟨none, .store 1 (.t p47) (.t p45), none, 4095⟩] true)
 (.seq (.region [⟨some p6, .mov (.c (.bool true)), none, 0⟩] false)
 .ret))))) }
theorem ok34 : cFn Tryd.prog 34 = some ef34 := by kernel_rfl
/-- (*shape.Checker).lock -/
def ef35 : EFn := { id := 35, N := 63, res := [(p6, none)], code := (.seq (.region [⟨some p5, .box (.t p2), none, 0⟩, ⟨some p6, .mov (.c (.bool false)), none, 0⟩] false)
 (.seq (.seq (.region [⟨some p7, .mov (.t p1), none, 0⟩, ⟨some p8, .nilck (.t p7), none, 1⟩, ⟨some p9, .faddr 0 (.t p8), none, 3⟩, ⟨some p10, .load1 (.t p9), none, 7⟩, ⟨some p11, .bin .neq (.t p10) (.c (.int .i64 (.ofNat 1))), none, 15⟩, ⟨some p12, .mov (.t p11), none, 31⟩, ⟨some p13, .mov (.t p1), some (p12, true), 63⟩, ⟨some p14, .nilck (.t p13), some (p12, true), 127⟩, ⟨some p15, .faddr 0 (.t p14), some (p12, true), 255⟩, ⟨some p16, .load1 (.t p15), some (p12, true), 511⟩, ⟨some p17, .bin .neq (.t p16) (.c (.int .i64 (.ofNat 3))), some (p12, true), 1023⟩, ⟨some p18, .pick (.t p12) (.t p17) (.c (.bool false)), none, 2047⟩, ⟨some p19, .mov (.t p18), none, 4095⟩, ⟨some p20, .faddr 3 (.t p5), some (p19, false), 8191⟩, ⟨some p21, .load1 (.t p20), some (p19, false), 16383⟩, ⟨some p22, .mov (.t p1), some (p19, false), 8191⟩, ⟨some p23, .nilck (.t p22), some (p19, false), 40959⟩, ⟨some p24, .faddr 10 (.t p23), some (p19, false), 106495⟩, ⟨some p25, .load1 (.t p24), some (p19, false), 237567⟩, ⟨some p26, .bin .leq (.t p21) (.t p25), some (p19, false), 524287⟩, ⟨some p27, .pick (.t p19) (.c (.bool true)) (.t p26), none, 1048575⟩, ⟨some p28, .mov (.t p27), none, 2097151⟩, ⟨some p29, .mov (.t p0), some (p28, false), 4194303⟩, ⟨some p30, .faddr 3 (.t p5), some (p28, false), 4194303⟩, ⟨some p31, .load1 (.t p30), some (p28, false), 12582911⟩, ⟨some p32, .call (.c (.fn 52 [] [])) [(.t p29), (.t p31)], some (p28, false), 33554431⟩, ⟨some p33, .un .not (.t p32), some (p28, false), 67108863⟩, ⟨some p34, .pick (.t p28) (.c (.bool true)) (.t p33), none, 134217727⟩] true)
 (.cond (.t p34) (.seq (.region [⟨some p6, .mov (.c (.bool false)), none, 0⟩] false)
 .ret) .skip))
 (.seq (.region [⟨some p35, .mov (.t p1), none, 0⟩, ⟨some p36, .mov (.t p1), none, 0⟩, ⟨some p37, .faddr 3 (.t p5), none, 0⟩, ⟨some p38, .load1 (.t p37), none, 4⟩, ⟨some p39, .nilck (.t p35), none, 1⟩, ⟨some p40, .faddr 0 (.t p39), none, 17⟩, ⟨none, .store 1 (.t p40) (.c (.int .i64 (.ofNat 3))), none, 49⟩, ⟨some p41, .nilck (.t p36), none, 127⟩, ⟨some p42, .faddr 10 (.t p41), none, 255⟩, ⟨none, .store 1 (.t p42) (.t p38), none, 511⟩] true)
 (.seq (.region [⟨some p43, .mov (.t p1), none, 0⟩, ⟨some p44, .nilck (.t p43), none, 1⟩, ⟨some p45, .faddr 7 (.t p44), none, 3⟩, ⟨some p46, .load1 (.t p45), none, 7⟩, ⟨some p47, .faddr 3 (.t p5), none, 0⟩, ⟨some p48, .load1 (.t p47), none, 16⟩, ⟨some p49, .bin .shl (.c (.int .u32 (.ofNat 1))) (.t p48), none, 48⟩, ⟨some p50, .bin .or (.t p46) (.t p49), none, 127⟩, ⟨some p51, .nilck (.t p43), none, 255⟩, ⟨some p52, .faddr 7 (.t p51), none, 511⟩, ⟨none, .store 1 (.t p52) (.t p50), none, 1023⟩] true)
 (.seq (.region [⟨some p53, .mov (.t p0), none, 0⟩, ⟨some p54, .nilck (.t p53), none, 1⟩, ⟨some p55, .faddr 4 (.t p54), none, 3⟩, ⟨some p56, .load1 (.t p55), none, 7⟩, ⟨some p57, .faddr 3 (.t p5), none, 0⟩, ⟨some p58, .load1 (.t p57), none, 16⟩, ⟨some p59, .faddr 1 (.t p5), none, 0⟩, ⟨some p60, .load1 (.t p59), none, 64⟩, ⟨some p61, .iaddrS 2 (.t p56) (.t p58), none, 255⟩, ⟨some p62, .faddr 0 (.t p61), none, 511⟩, ⟨none, .store 1 (.t p62) (.t p60), none, 1023⟩] true)
 (.seq (.region [⟨some p6, .mov (.c (.bool true)), none, 0⟩] false)
 .ret)))))) }
theorem ok35 : cFn Tryd.prog 35 = some ef35 := by kernel_rfl
/-- (*shape.Checker).bump -/
def ef36 : EFn := { id := 36, N := 49, res := [(p6, none)], code := (.seq (.region [⟨some p5, .box (.t p2), none, 0⟩, ⟨some p6, .mov (.c (.bool false)), none, 0⟩] false)
 (.seq (.seq (.region [⟨some p7, .mov (.t p1), none, 0⟩, ⟨some p8, .nilck (.t p7), none, 1⟩, ⟨some p9, .faddr 0 (.t p8), none, 3⟩, ⟨some p10, .load1 (.t p9), none, 7⟩, ⟨some p11, .bin .neq (.t p10) (.c (.int .i64 (.ofNat 3))), none, 15⟩, ⟨some p12, .mov (.t p11), none, 31⟩, ⟨some p13, .faddr 4 (.t p5), some (p12, false), 63⟩, ⟨some p14, .load1 (.t p13), some (p12, false), 127⟩, ⟨some p15, .mov (.t p0), some (p12, false), 63⟩, ⟨some p16, .nilck (.t p15), some (p12, false), 319⟩, ⟨some p17, .faddr 1 (.t p16), some (p12, false), 831⟩, ⟨some p18, .load1 (.t p17), some (p12, false), 1855⟩, ⟨some p19, .bin .leq (.t p14) (.t p18), some (p12, false), 4095⟩, ⟨some p20, .pick (.t p12) (.c (.bool true)) (.t p19), none, 8191⟩] true)
 (.cond (.t p20) (.seq (.region [⟨some p6, .mov (.c (.bool false)), none, 0⟩] false)
 .ret) .skip))
 (.seq (.region [⟨some p21, .mov (.t p0), none, 0⟩, ⟨some p22, .faddr 4 (.t p5), none, 0⟩, ⟨some p23, .load1 (.t p22), none, 2⟩, ⟨some p24, .nilck (.t p21), none, 7⟩, ⟨some p25, .faddr 1 (.t p24), none, 15⟩, ⟨none, .store 1 (.t p25) (.t p23), none, 31⟩] false)
 (.seq (.region [⟨some p26, .mov (.t p1), none, 0⟩, ⟨some p27, .mov (.t p1), none, 0⟩, ⟨some p28, .faddr 4 (.t p5), none, 0⟩, ⟨some p29, .load1 (.t p28), none, 4⟩, ⟨some p30, .nilck (.t p26), none, 1⟩, ⟨some p31, .faddr 0 (.t p30), none, 17⟩, ⟨none, .store 1 (.t p31) (.c (.int .i64 (.ofNat 4))), none, 49⟩, ⟨some p32, .nilck (.t p27), none, 127⟩, ⟨some p33, .faddr 3 (.t p32), none, 255⟩, ⟨none, .store 1 (.t p33) (.t p29), none, 511⟩] true)
 (.seq (.seq (.region [⟨some p34, .faddr 4 (.t p5), none, 0⟩, ⟨some p35, .load1 (.t p34), none, 1⟩, ⟨some p36, .mov (.t p1), none, 0⟩, ⟨some p37, .nilck (.t p36), none, 4⟩, ⟨some p38, .faddr 2 (.t p37), none, 12⟩, ⟨some p39, .load1 (.t p38), none, 28⟩, ⟨some p40, .bin .add (.t p39) (.c (.int .i64 (.ofNat 1))), none, 60⟩, ⟨some p41, .bin .neq (.t p35) (.t p40), none, 127⟩] true)
 (.cond (.t p41) (.region [⟨some p42, .mov (.t p1), none, 0⟩, ⟨some p43, .mov (.t p1), none, 0⟩, ⟨some p44, .nilck (.t p43), none, 2⟩, ⟨some p45, .faddr 6 (.t p44), none, 6⟩, ⟨some p46, .load1 (.t p45), none, 14⟩, ⟨some p47, .nilck (.t p42), none, 31⟩, ⟨some p48, .faddr 9 (.t p47), none, 63⟩, ⟨none, .store 1 (.t p48) (.t p46), none, 127⟩] false) .skip))
 (.seq (.region [⟨some p6, .mov (.c (.bool true)), none, 0⟩] false)
 .ret)))))) }
theorem ok36 : cFn Tryd.prog 36 = some ef36 := by kernel_rfl
/-- (*shape.Checker).checked -/
def ef37 : EFn := { id := 37, N := 46, res := [(p6, none)], code := (.seq (.region [⟨some p5, .box (.t p2), none, 0⟩, ⟨some p6, .mov (.c (.bool false)), none, 0⟩] false)
 (.seq (.seq (.region [⟨some p7, .mov (.t p1), none, 0⟩, ⟨some p8, .nilck (.t p7), none, 1⟩, ⟨some p9, .faddr 0 (.t p8), none, 3⟩, ⟨some p10, .load1 (.t p9), none, 7⟩, ⟨some p11, .bin .neq (.t p10) (.c (.int .i64 (.ofNat 4))), none, 15⟩, ⟨some p12, .mov (.t p11), none, 31⟩, ⟨some p13, .faddr 3 (.t p5), some (p12, false), 63⟩, ⟨some p14, .load1 (.t p13), some (p12, false), 127⟩, ⟨some p15, .mov (.t p1), some (p12, false), 63⟩, ⟨some p16, .nilck (.t p15), some (p12, false), 319⟩, ⟨some p17, .faddr 9 (.t p16), some (p12, false), 831⟩, ⟨some p18, .load1 (.t p17), some (p12, false), 1855⟩, ⟨some p19, .call (.c (.fn 54 [] [])) [(.t p18)], some (p12, false), 3903⟩, ⟨some p20, .bin .neq (.t p14) (.t p19), some (p12, false), 8191⟩, ⟨some p21, .pick (.t p12) (.c (.bool true)) (.t p20), none, 16383⟩, ⟨some p22, .mov (.t p21), none, 32767⟩, ⟨some p23, .mov (.t p0), some (p22, false), 65535⟩, ⟨some p24, .faddr 3 (.t p5), some (p22, false), 65535⟩, ⟨some p25, .load1 (.t p24), some (p22, false), 196607⟩, ⟨some p26, .loadN 7 (.t p5), some (p22, false), 65535⟩, ⟨some p27, .call (.c (.fn 55 [] [])) [(.t p23), (.t p25), (.t p26)], some (p22, false), 1048575⟩, ⟨some p28, .pick (.t p22) (.c (.bool true)) (.t p27), none, 2097151⟩, ⟨some p29, .mov (.t p28), none, 4194303⟩, ⟨some p30, .mov (.t p0), some (p29, false), 8388607⟩, ⟨some p31, .faddr 3 (.t p5), some (p29, false), 8388607⟩, ⟨some p32, .load1 (.t p31), some (p29, false), 25165823⟩, ⟨some p33, .mov (.t p1), some (p29, false), 8388607⟩, ⟨some p34, .call (.c (.fn 56 [] [])) [(.t p30), (.t p32), (.t p33)], some (p29, false), 134217727⟩, ⟨some p35, .pick (.t p29) (.c (.bool true)) (.t p34), none, 268435455⟩] true)
 (.cond (.t p35) (.seq (.region [⟨some p6, .mov (.c (.bool false)), none, 0⟩] false)
 .ret) .skip))
 (.seq (.region [⟨some p36, .mov (.t p1), none, 0⟩, ⟨some p37, .nilck (.t p36), none, 1⟩, ⟨some p38, .faddr 9 (.t p37), none, 3⟩, ⟨some p39, .load1 (.t p38), none, 7⟩, ⟨some p40, .faddr 3 (.t p5), none, 0⟩, ⟨some p41, .load1 (.t p40), none, 16⟩, ⟨some p42, .bin .shl (.c (.int .u32 (.ofNat 1))) (.t p41), none, 48⟩, ⟨some p43, .bin .andNot (.t p39) (.t p42), none, 127⟩, ⟨some p44, .nilck (.t p36), none, 255⟩, ⟨some p45, .faddr 9 (.t p44), none, 511⟩, ⟨none, .store 1 (.t p45) (.t p43), none, 1023⟩] true)
 (.seq (.region [⟨some p6, .mov (.c (.bool true)), none, 0⟩] false)
 .ret)))) }
theorem ok37 : cFn Tryd.prog 37 = some ef37 := by kernel_rfl
/-- (*shape.Checker).commit -/
def ef38 : EFn := { id := 38, N := 50, res := [(p6, none)], code := (.seq (.region [⟨some p5, .box (.t p2), none, 0⟩, ⟨some p6, .mov (.c (.bool false)), none, 0⟩] false)
 (.seq (.block 0 (.seq (.region [⟨some p8, .faddr 4 (.t p5), none, 0⟩, ⟨some p9, .load1 (.t p8), none, 1⟩, ⟨some p10, .bin .eql (.t p9) (.c (.int .i64 (.ofNat 0))), none, 3⟩, ⟨some p11, .mov (.t p10), none, 7⟩, ⟨some p12, .mov (.t p1), some (p11, true), 15⟩, ⟨some p13, .nilck (.t p12), some (p11, true), 31⟩, ⟨some p14, .faddr 0 (.t p13), some (p11, true), 63⟩, ⟨some p15, .load1 (.t p14), some (p11, true), 127⟩, ⟨some p16, .bin .eql (.t p15) (.c (.int .i64 (.ofNat 1))), some (p11, true), 255⟩, ⟨some p17, .pick (.t p11) (.t p16) (.c (.bool false)), none, 511⟩, ⟨some p7, .mov (.t p17), none, 1023⟩] false)
 (.cond (.t p7) (.region [⟨some p18, .mov (.t p1), none, 0⟩, ⟨some p19, .call (.c (.fn 57 [] [])) [(.t p18)], none, 1⟩] false) (.seq (.region [⟨some p21, .faddr 4 (.t p5), none, 0⟩, ⟨some p22, .load1 (.t p21), none, 1⟩, ⟨some p23, .bin .neq (.t p22) (.c (.int .i64 (.ofNat 0))), none, 3⟩, ⟨some p24, .mov (.t p23), none, 7⟩, ⟨some p25, .mov (.t p1), some (p24, true), 15⟩, ⟨some p26, .nilck (.t p25), some (p24, true), 31⟩, ⟨some p27, .faddr 0 (.t p26), some (p24, true), 63⟩, ⟨some p28, .load1 (.t p27), some (p24, true), 127⟩, ⟨some p29, .bin .eql (.t p28) (.c (.int .i64 (.ofNat 4))), some (p24, true), 255⟩, ⟨some p30, .pick (.t p24) (.t p29) (.c (.bool false)), none, 511⟩, ⟨some p31, .mov (.t p30), none, 1023⟩, ⟨some p32, .mov (.t p1), some (p31, true), 2047⟩, ⟨some p33, .nilck (.t p32), some (p31, true), 4095⟩, ⟨some p34, .faddr 9 (.t p33), some (p31, true), 8191⟩, ⟨some p35, .load1 (.t p34), some (p31, true), 16383⟩, ⟨some p36, .bin .eql (.t p35) (.c (.int .u32 (.ofNat 0))), some (p31, true), 32767⟩, ⟨some p37, .pick (.t p31) (.t p36) (.c (.bool false)), none, 65535⟩, ⟨some p38, .mov (.t p37), none, 131071⟩, ⟨some p39, .faddr 4 (.t p5), some (p38, true), 262143⟩, ⟨some p40, .load1 (.t p39), some (p38, true), 524287⟩, ⟨some p41, .mov (.t p1), some (p38, true), 262143⟩, ⟨some p42, .nilck (.t p41), some (p38, true), 1310719⟩, ⟨some p43, .faddr 3 (.t p42), some (p38, true), 3407871⟩, ⟨some p44, .load1 (.t p43), some (p38, true), 7602175⟩, ⟨some p45, .bin .eql (.t p40) (.t p44), some (p38, true), 16777215⟩, ⟨some p46, .pick (.t p38) (.t p45) (.c (.bool false)), none, 33554431⟩, ⟨some p20, .mov (.t p46), none, 67108863⟩] true)
 (.cond (.t p20) (.region [⟨some p47, .mov (.t p1), none, 0⟩, ⟨some p48, .nilck (.t p47), none, 1⟩, ⟨some p49, .faddr 0 (.t p48), none, 3⟩, ⟨none, .store 1 (.t p49) (.c (.int .i64 (.ofNat 5))), none, 7⟩] false) (.seq (.region [⟨some p6, .mov (.c (.bool false)), none, 0⟩] false)
 .ret))))))
 (.seq (.region [⟨some p6, .mov (.c (.bool true)), none, 0⟩] false)
 .ret))) }
theorem ok38 : cFn Tryd.prog 38 = some ef38 := by kernel_rfl
/-- (*shape.Checker).store -/
def ef39 : EFn := { id := 39, N := 54, res := [(p6, none)], code := (.seq (.region [⟨some p5, .box (.t p2), none, 0⟩, ⟨some p6, .mov (.c (.bool false)), none, 0⟩] false)
 (.seq (.region [⟨some p8, .faddr 3 (.t p5), none, 0⟩, ⟨some p9, .load1 (.t p8), none, 1⟩, ⟨some p10, .mov (.t p0), none, 0⟩, ⟨some p11, .nilck (.t p10), none, 4⟩, ⟨some p12, .faddr 4 (.t p11), none, 12⟩, ⟨some p13, .load1 (.t p12), none, 28⟩, ⟨some p14, .len false (.t p13), none, 60⟩, ⟨some p15, .bin .rem (.t p9) (.t p14), none, 127⟩, ⟨some p7, .mov (.t p15), none, 255⟩] true)
 (.seq (.seq (.region [⟨some p16, .mov (.t p1), none, 0⟩, ⟨some p17, .nilck (.t p16), none, 1⟩, ⟨some p18, .faddr 0 (.t p17), none, 3⟩, ⟨some p19, .load1 (.t p18), none, 7⟩, ⟨some p20, .bin .neq (.t p19) (.c (.int .i64 (.ofNat 5))), none, 15⟩, ⟨some p21, .mov (.t p20), none, 31⟩, ⟨some p22, .faddr 3 (.t p5), some (p21, false), 63⟩, ⟨some p23, .load1 (.t p22), some (p21, false), 127⟩, ⟨some p24, .mov (.t p1), some (p21, false), 63⟩, ⟨some p25, .nilck (.t p24), some (p21, false), 319⟩, ⟨some p26, .faddr 11 (.t p25), some (p21, false), 831⟩, ⟨some p27, .load1 (.t p26), some (p21, false), 1855⟩, ⟨some p28, .bin .leq (.t p23) (.t p27), some (p21, false), 4095⟩, ⟨some p29, .pick (.t p21) (.c (.bool true)) (.t p28), none, 8191⟩, ⟨some p30, .mov (.t p29), none, 16383⟩, ⟨some p31, .mov (.t p1), some (p30, false), 32767⟩, ⟨some p32, .nilck (.t p31), some (p30, false), 65535⟩, ⟨some p33, .faddr 7 (.t p32), some (p30, false), 131071⟩, ⟨some p34, .load1 (.t p33), some (p30, false), 262143⟩, ⟨some p35, .mov (.t p7), some (p30, false), 32767⟩, ⟨some p36, .bin .shr (.t p34) (.t p35), some (p30, false), 1048575⟩, ⟨some p37, .bin .and (.t p36) (.c (.int .u32 (.ofNat 1))), some (p30, false), 2097151⟩, ⟨some p38, .bin .eql (.t p37) (.c (.int .u32 (.ofNat 0))), some (p30, false), 4194303⟩, ⟨some p39, .pick (.t p30) (.c (.bool true)) (.t p38), none, 8388607⟩] true)
 (.cond (.t p39) (.seq (.region [⟨some p6, .mov (.c (.bool false)), none, 0⟩] false)
 .ret) .skip))
 (.seq (.region [⟨some p40, .mov (.t p1), none, 0⟩, ⟨some p41, .faddr 3 (.t p5), none, 0⟩, ⟨some p42, .load1 (.t p41), none, 2⟩, ⟨some p43, .nilck (.t p40), none, 7⟩, ⟨some p44, .faddr 11 (.t p43), none, 15⟩, ⟨none, .store 1 (.t p44) (.t p42), none, 31⟩] false)
 (.seq (.region [⟨some p45, .mov (.t p1), none, 0⟩, ⟨some p46, .nilck (.t p45), none, 1⟩, ⟨some p47, .faddr 8 (.t p46), none, 3⟩, ⟨some p48, .load1 (.t p47), none, 7⟩, ⟨some p49, .mov (.t p7), none, 0⟩, ⟨some p50, .bin .shl (.c (.int .u32 (.ofNat 1))) (.t p49), none, 16⟩, ⟨some p51, .bin .or (.t p48) (.t p50), none, 63⟩, ⟨some p52, .nilck (.t p45), none, 127⟩, ⟨some p53, .faddr 8 (.t p52), none, 255⟩, ⟨none, .store 1 (.t p53) (.t p51), none, 511⟩] true)
 (.seq (.region [⟨some p6, .mov (.c (.bool true)), none, 0⟩] false)
 .ret)))))) }
theorem ok39 : cFn Tryd.prog 39 = some ef39 := by kernel_rfl
/-- (*shape.Checker).freed -/
def ef40 : EFn := { id := 40, N := 67, res := [(p6, none)], code := (.seq (.region [⟨some p5, .box (.t p2), none, 0⟩, ⟨some p6, .mov (.c (.bool false)), none, 0⟩] false)
 (.seq (.seq (.region [⟨some p7, .mov (.t p1), none, 0⟩, ⟨some p8, .nilck (.t p7), none, 1⟩, ⟨some p9, .faddr 0 (.t p8), none, 3⟩, ⟨some p10, .load1 (.t p9), none, 7⟩, ⟨some p11, .bin .neq (.t p10) (.c (.int .i64 (.ofNat 6))), none, 15⟩, ⟨some p12, .mov (.t p11), none, 31⟩, ⟨some p13, .mov (.t p1), some (p12, true), 63⟩, ⟨some p14, .nilck (.t p13), some (p12, true), 127⟩, ⟨some p15, .faddr 0 (.t p14), some (p12, true), 255⟩, ⟨some p16, .load1 (.t p15), some (p12, true), 511⟩, ⟨some p17, .bin .neq (.t p16) (.c (.int .i64 (.ofNat 5))), some (p12, true), 1023⟩, ⟨some p18, .mov (.t p17), some (p12, true), 2047⟩, ⟨some p19, .mov (.t p1), some (p18, false), 4095⟩, ⟨some p20, .nilck (.t p19), some (p18, false), 8191⟩, ⟨some p21, .faddr 8 (.t p20), some (p18, false), 16383⟩, ⟨some p22, .load1 (.t p21), some (p18, false), 32767⟩, ⟨some p23, .mov (.t p1), some (p18, false), 4095⟩, ⟨some p24, .nilck (.t p23), some (p18, false), 69631⟩, ⟨some p25, .faddr 7 (.t p24), some (p18, false), 200703⟩, ⟨some p26, .load1 (.t p25), some (p18, false), 462847⟩, ⟨some p27, .bin .neq (.t p22) (.t p26), some (p18, false), 1048575⟩, ⟨some p28, .pick (.t p18) (.c (.bool true)) (.t p27), some (p12, true), 2097151⟩, ⟨some p29, .pick (.t p12) (.t p28) (.c (.bool false)), none, 4194303⟩, ⟨some p30, .mov (.t p29), none, 8388607⟩, ⟨some p31, .faddr 3 (.t p5), some (p30, false), 16777215⟩, ⟨some p32, .load1 (.t p31), some (p30, false), 33554431⟩, ⟨some p33, .mov (.t p1), some (p30, false), 16777215⟩, ⟨some p34, .nilck (.t p33), some (p30, false), 83886079⟩, ⟨some p35, .faddr 7 (.t p34), some (p30, false), 218103807⟩, ⟨some p36, .load1 (.t p35), some (p30, false), 486539263⟩, ⟨some p37, .call (.c (.fn 54 [] [])) [(.t p36)], some (p30, false), 1023410175⟩, ⟨some p38, .bin .neq (.t p32) (.t p37), some (p30, false), 2147483647⟩, ⟨some p39, .pick (.t p30) (.c (.bool true)) (.t p38), none, 4294967295⟩] true)
 (.cond (.t p39) (.seq (.region [⟨some p6, .mov (.c (.bool false)), none, 0⟩] false)
 .ret) .skip))
 (.seq (.region [⟨some p40, .mov (.t p0), none, 0⟩, ⟨some p41, .mov (.t p1), none, 0⟩, ⟨some p42, .faddr 3 (.t p5), none, 0⟩, ⟨some p43, .load1 (.t p42), none, 4⟩, ⟨some p44, .call (.c (.fn 58 [] [])) [(.t p40), (.t p41), (.t p43)], none, 15⟩] false)
 (.seq (.region [⟨some p45, .mov (.t p0), none, 0⟩, ⟨some p46, .nilck (.t p45), none, 1⟩, ⟨some p47, .faddr 4 (.t p46), none, 3⟩, ⟨some p48, .load1 (.t p47), none, 7⟩, ⟨some p49, .faddr 3 (.t p5), none, 0⟩, ⟨some p50, .load1 (.t p49), none, 16⟩, ⟨some p51, .mov (.t p1), none, 0⟩, ⟨some p52, .nilck (.t p51), none, 64⟩, ⟨some p53, .faddr 3 (.t p52), none, 192⟩, ⟨some p54, .load1 (.t p53), none, 448⟩, ⟨some p55, .iaddrS 2 (.t p48) (.t p50), none, 1023⟩, ⟨some p56, .faddr 1 (.t p55), none, 2047⟩, ⟨none, .store 1 (.t p56) (.t p54), none, 4095⟩] true)
 (.seq (.seq (.region [⟨some p57, .mov (.t p1), none, 0⟩, ⟨some p58, .nilck (.t p57), none, 1⟩, ⟨some p59, .faddr 0 (.t p58), none, 3⟩, ⟨none, .store 1 (.t p59) (.c (.int .i64 (.ofNat 6))), none, 7⟩] false)
 (.seq (.region [⟨some p60, .mov (.t p1), none, 0⟩, ⟨some p61, .nilck (.t p60), none, 1⟩, ⟨some p62, .faddr 7 (.t p61), none, 3⟩, ⟨some p63, .load1 (.t p62), none, 7⟩, ⟨some p64, .bin .eql (.t p63) (.c (.int .u32 (.ofNat 0))), none, 15⟩] false)
 (.cond (.t p64) (.region [⟨some p65, .mov (.t p1), none, 0⟩, ⟨some p66, .call (.c (.fn 57 [] [])) [(.t p65)], none, 1⟩] false) .skip)))
 (.seq (.region [⟨some p6, .mov (.c (.bool true)), none, 0⟩] false)
 .ret)))))) }
theorem ok40 : cFn Tryd.prog 40 = some ef40 := by kernel_rfl
/-- (*shape.Checker).abort -/
def ef41 : EFn := { id := 41, N := 153, res := [(p6, none)], code := (.seq (.region [⟨some p5, .box (.t p2), none, 0⟩, ⟨some p6, .mov (.c (.bool false)), none, 0⟩] false)
 (.seq (.region [⟨some p7, .mov (.c (.bool false)), none, 0⟩] false)
 (.seq (.seq (.region [⟨some p8, .faddr 6 (.t p5), none, 0⟩, ⟨some p9, .load1 (.t p8), none, 1⟩] false)
 (.block 0 (.seq (.region [⟨some p11, .bin .eql (.t p9) (.c (.int .u8 (.ofNat 1))), none, 0⟩, ⟨some p10, .mov (.t p11), none, 1⟩] false)
 (.cond (.t p10) (.region [⟨some p12, .mov (.t p1), none, 0⟩, ⟨some p13, .nilck (.t p12), none, 1⟩, ⟨some p14, .faddr 0 (.t p13), none, 3⟩, ⟨some p15, .load1 (.t p14), none, 7⟩, ⟨some p16, .bin .eql (.t p15) (.c (.int .i64 (.ofNat 1))), none, 15⟩, ⟨some p17, .mov (.t p16), none, 31⟩, ⟨some p18, .mov (.t p0), some (p17, true), 63⟩, ⟨some p19, .faddr 3 (.t p5), some (p17, true), 63⟩, ⟨some p20, .load1 (.t p19), some (p17, true), 191⟩, ⟨some p21, .loadN 7 (.t p5), some (p17, true), 63⟩, ⟨some p22, .call (.c (.fn 55 [] [])) [(.t p18), (.t p20), (.t p21)], some (p17, true), 1023⟩, ⟨some p23, .pick (.t p17) (.t p22) (.c (.bool false)), none, 2047⟩, ⟨some p7, .mov (.t p23), none, 4095⟩] false) (.seq (.region [⟨some p25, .bin .eql (.t p9) (.c (.int .u8 (.ofNat 2))), none, 0⟩, ⟨some p24, .mov (.t p25), none, 1⟩] false)
 (.cond (.t p24) (.region [⟨some p26, .mov (.t p1), none, 0⟩, ⟨some p27, .nilck (.t p26), none, 1⟩, ⟨some p28, .faddr 0 (.t p27), none, 3⟩, ⟨some p29, .load1 (.t p28), none, 7⟩, ⟨some p30, .bin .eql (.t p29) (.c (.int .i64 (.ofNat 1))), none, 15⟩, ⟨some p31, .mov (.t p30), none, 31⟩, ⟨some p32, .mov (.t p0), some (p31, true), 63⟩, ⟨some p33, .faddr 3 (.t p5), some (p31, true), 63⟩, ⟨some p34, .load1 (.t p33), some (p31, true), 191⟩, ⟨some p35, .call (.c (.fn 52 [] [])) [(.t p32), (.t p34)], some (p31, true), 511⟩, ⟨some p36, .pick (.t p31) (.t p35) (.c (.bool false)), none, 1023⟩, ⟨some p37, .mov (.t p36), none, 2047⟩, ⟨some p38, .mov (.t p0), some (p37, true), 4095⟩, ⟨some p39, .faddr 3 (.t p5), some (p37, true), 4095⟩, ⟨some p40, .load1 (.t p39), some (p37, true), 12287⟩, ⟨some p41, .mov (.t p1), some (p37, true), 4095⟩, ⟨some p42, .call (.c (.fn 56 [] [])) [(.t p38), (.t p40), (.t p41)], some (p37, true), 65535⟩, ⟨some p43, .pick (.t p37) (.t p42) (.c (.bool false)), none, 131071⟩, ⟨some p7, .mov (.t p43), none, 262143⟩] false) (.seq (.region [⟨some p45, .bin .eql (.t p9) (.c (.int .u8 (.ofNat 3))), none, 0⟩, ⟨some p44, .mov (.t p45), none, 1⟩] false)
 (.cond (.t p44) (.region [⟨some p46, .mov (.t p1), none, 0⟩, ⟨some p47, .nilck (.t p46), none, 1⟩, ⟨some p48, .faddr 0 (.t p47), none, 3⟩, ⟨some p49, .load1 (.t p48), none, 7⟩, ⟨some p50, .bin .eql (.t p49) (.c (.int .i64 (.ofNat 2))), none, 15⟩, ⟨some p51, .mov (.t p50), none, 31⟩, ⟨some p52, .faddr 3 (.t p5), some (p51, true), 63⟩, ⟨some p53, .load1 (.t p52), some (p51, true), 127⟩, ⟨some p54, .mov (.t p1), some (p51, true), 63⟩, ⟨some p55, .nilck (.t p54), some (p51, true), 319⟩, ⟨some p56, .faddr 4 (.t p55), some (p51, true), 831⟩, ⟨some p57, .load1 (.t p56), some (p51, true), 1855⟩, ⟨some p58, .bin .eql (.t p53) (.t p57), some (p51, true), 4095⟩, ⟨some p59, .pick (.t p51) (.t p58) (.c (.bool false)), none, 8191⟩, ⟨some p60, .mov (.t p59), none, 16383⟩, ⟨some p61, .mov (.t p0), some (p60, true), 32767⟩, ⟨some p62, .mov (.t p1), some (p60, true), 32767⟩, ⟨some p63, .call (.c (.fn 53 [] [])) [(.t p61), (.t p62)], some (p60, true), 131071⟩, ⟨some p64, .un .not (.t p63), some (p60, true), 262143⟩, ⟨some p65, .pick (.t p60) (.t p64) (.c (.bool false)), none, 524287⟩, ⟨some p7, .mov (.t p65), none, 1048575⟩] true) (.seq (.region [⟨some p67, .bin .eql (.t p9) (.c (.int .u8 (.ofNat 4))), none, 0⟩, ⟨some p66, .mov (.t p67), none, 1⟩] false)
 (.cond (.t p66) (.region [⟨some p68, .mov (.t p1), none, 0⟩, ⟨some p69, .nilck (.t p68), none, 1⟩, ⟨some p70, .faddr 0 (.t p69), none, 3⟩, ⟨some p71, .load1 (.t p70), none, 7⟩, ⟨some p72, .bin .eql (.t p71) (.c (.int .i64 (.ofNat 1))), none, 15⟩, ⟨some p73, .mov (.t p72), none, 31⟩, ⟨some p74, .mov (.t p1), some (p73, false), 63⟩, ⟨some p75, .nilck (.t p74), some (p73, false), 127⟩, ⟨some p76, .faddr 0 (.t p75), some (p73, false), 255⟩, ⟨some p77, .load1 (.t p76), some (p73, false), 511⟩, ⟨some p78, .bin .eql (.t p77) (.c (.int .i64 (.ofNat 3))), some (p73, false), 1023⟩, ⟨some p79, .pick (.t p73) (.c (.bool true)) (.t p78), none, 2047⟩, ⟨some p80, .mov (.t p79), none, 4095⟩, ⟨some p81, .faddr 3 (.t p5), some (p80, true), 8191⟩, ⟨some p82, .load1 (.t p81), some (p80, true), 16383⟩, ⟨some p83, .mov (.t p1), some (p80, true), 8191⟩, ⟨some p84, .nilck (.t p83), some (p80, true), 40959⟩, ⟨some p85, .faddr 10 (.t p84), some (p80, true), 106495⟩, ⟨some p86, .load1 (.t p85), some (p80, true), 237567⟩, ⟨some p87, .bin .gtr (.t p82) (.t p86), some (p80, true), 524287⟩, ⟨some p88, .pick (.t p80) (.t p87) (.c (.bool false)), none, 1048575⟩, ⟨some p89, .mov (.t p88), none, 2097151⟩, ⟨some p90, .mov (.t p0), some (p89, true), 4194303⟩, ⟨some p91, .faddr 3 (.t p5), some (p89, true), 4194303⟩, ⟨some p92, .load1 (.t p91), some (p89, true), 12582911⟩, ⟨some p93, .loadN 7 (.t p5), some (p89, true), 4194303⟩, ⟨some p94, .call (.c (.fn 55 [] [])) [(.t p90), (.t p92), (.t p93)], some (p89, true), 67108863⟩, ⟨some p95, .pick (.t p89) (.t p94) (.c (.bool false)), none, 134217727⟩, ⟨some p7, .mov (.t p95), none, 268435455⟩] true) (.seq (.region [⟨some p97, .bin .eql (.t p9) (.c (.int .u8 (.ofNat 5))), none, 0⟩, ⟨some p96, .mov (.t p97), none, 1⟩] false)
 (.cond (.t p96) (.region [⟨some p98, .mov (.t p1), none, 0⟩, ⟨some p99, .nilck (.t p98), none, 1⟩, ⟨some p100, .faddr 0 (.t p99), none, 3⟩, ⟨some p101, .load1 (.t p100), none, 7⟩, ⟨some p102, .bin .eql (.t p101) (.c (.int .i64 (.ofNat 4))), none, 15⟩, ⟨some p103, .mov (.t p102), none, 31⟩, ⟨some p104, .faddr 3 (.t p5), some (p103, true), 63⟩, ⟨some p105, .load1 (.t p104), some (p103, true), 127⟩, ⟨some p106, .mov (.t p1), some (p103, true), 63⟩, ⟨some p107, .nilck (.t p106), some (p103, true), 319⟩, ⟨some p108, .faddr 9 (.t p107), some (p103, true), 831⟩, ⟨some p109, .load1 (.t p108), some (p103, true), 1855⟩, ⟨some p110, .call (.c (.fn 54 [] [])) [(.t p109)], some (p103, true), 3903⟩, ⟨some p111, .bin .eql (.t p105) (.t p110), some (p103, true), 8191⟩, ⟨some p112, .pick (.t p103) (.t p111) (.c (.bool false)), none, 16383⟩, ⟨some p113, .mov (.t p112), none, 32767⟩, ⟨some p114, .mov (.t p0), some (p113, true), 65535⟩, ⟨some p115, .faddr 3 (.t p5), some (p113, true), 65535⟩, ⟨some p116, .load1 (.t p115), some (p113, true), 196607⟩, ⟨some p117, .loadN 7 (.t p5), some (p113, true), 65535⟩, ⟨some p118, .call (.c (.fn 55 [] [])) [(.t p114), (.t p116), (.t p117)], some (p113, true), 1048575⟩, ⟨some p119, .mov (.t p118), some (p113, true), 2097151⟩, ⟨some p120, .mov (.t p0), some (p119, false), 4194303⟩, ⟨some p121, .faddr 3 (.t p5), some (p119, false), 4194303⟩, ⟨some p122, .load1 (.t p121), some (p119, false), 12582911⟩, ⟨some p123, .mov (.t p1), some (p119, false), 4194303⟩, ⟨some p124, .call (.c (.fn 56 [] [])) [(.t p120), (.t p122), (.t p123)], some (p119, false), 67108863⟩, ⟨some p125, .pick (.t p119) (.c (.bool true)) (.t p124), some (p113, true), 134217727⟩, ⟨some p126, .pick (.t p113) (.t p125) (.c (.bool false)), none, 268435455⟩, ⟨some p7, .mov (.t p126), none, 536870911⟩] true) (.seq (.region [⟨some p128, .bin .eql (.t p9) (.c (.int .u8 (.ofNat 6))), none, 0⟩, ⟨some p127, .mov (.t p128), none, 1⟩] false)
 (.cond (.t p127) (.region [⟨some p129, .mov (.t p1), none, 0⟩, ⟨some p130, .nilck (.t p129), none, 1⟩, ⟨some p131, .faddr 0 (.t p130), none, 3⟩, ⟨some p132, .load1 (.t p131), none, 7⟩, ⟨some p133, .bin .eql (.t p132) (.c (.int .i64 (.ofNat 3))), none, 15⟩, ⟨some p7, .mov (.t p133), none, 31⟩] false) .skip))))))))))))))
 (.seq (.seq (.region [⟨some p134, .mov (.t p7), none, 0⟩, ⟨some p135, .un .not (.t p134), none, 1⟩] false)
 (.cond (.t p135) (.seq (.region [⟨some p6, .mov (.c (.bool false)), none, 0⟩] false)
 .ret) .skip))
 (.seq (.region [⟨some p136, .mov (.t p1), none, 0⟩, ⟨some p137, .mov (.t p1), none, 0⟩, ⟨some p138, .faddr 6 (.t p5), none, 0⟩, ⟨some p139, .load1 (.t p138), none, 4⟩, ⟨some p140, .bin .eql (.t p139) (.c (.int .u8 (.ofNat 6))), none, 12⟩, ⟨some p141, .nilck (.t p136), none, 1⟩, ⟨some p142, .faddr 0 (.t p141), none, 33⟩, ⟨none, .store 1 (.t p142) (.c (.int .i64 (.ofNat 7))), none, 97⟩, ⟨some p143, .nilck (.t p137), none, 255⟩, ⟨some p144, .faddr 12 (.t p143), none, 511⟩, ⟨none, .store 1 (.t p144) (.t p140), none, 1023⟩] true)
 (.seq (.seq (.region [⟨some p145, .mov (.t p1), none, 0⟩, ⟨some p146, .nilck (.t p145), none, 1⟩, ⟨some p147, .faddr 7 (.t p146), none, 3⟩, ⟨some p148, .load1 (.t p147), none, 7⟩, ⟨some p149, .bin .eql (.t p148) (.c (.int .u32 (.ofNat 0))), none, 15⟩] false)
 (.cond (.t p149) (.region [⟨some p150, .mov (.t p1), none, 0⟩, ⟨some p151, .nilck (.t p150), none, 1⟩, ⟨some p152, .faddr 0 (.t p151), none, 3⟩, ⟨none, .store 1 (.t p152) (.c (.int .i64 (.ofNat 0))), none, 7⟩] false) .skip))
 (.seq (.region [⟨some p6, .mov (.c (.bool true)), none, 0⟩] false)
 .ret))))))) }
theorem ok41 : cFn Tryd.prog 41 = some ef41 := by kernel_rfl
/-- (*shape.Checker).undo -/
def ef42 : EFn := { id := 42, N := 51, res := [(p6, none)], code := (.seq (.region [⟨some p5, .box (.t p2), none, 0⟩, ⟨some p6, .mov (.c (.bool false)), none, 0⟩] false)
 (.seq (.seq (.region [⟨some p7, .mov (.t p1), none, 0⟩, ⟨some p8, .nilck (.t p7), none, 1⟩, ⟨some p9, .faddr 0 (.t p8), none, 3⟩, ⟨some p10, .load1 (.t p9), none, 7⟩, ⟨some p11, .bin .neq (.t p10) (.c (.int .i64 (.ofNat 7))), none, 15⟩, ⟨some p12, .mov (.t p11), none, 31⟩, ⟨some p13, .faddr 3 (.t p5), some (p12, false), 63⟩, ⟨some p14, .load1 (.t p13), some (p12, false), 127⟩, ⟨some p15, .mov (.t p1), some (p12, false), 63⟩, ⟨some p16, .nilck (.t p15), some (p12, false), 319⟩, ⟨some p17, .faddr 7 (.t p16), some (p12, false), 831⟩, ⟨some p18, .load1 (.t p17), some (p12, false), 1855⟩, ⟨some p19, .call (.c (.fn 54 [] [])) [(.t p18)], some (p12, false), 3903⟩, ⟨some p20, .bin .neq (.t p14) (.t p19), some (p12, false), 8191⟩, ⟨some p21, .pick (.t p12) (.c (.bool true)) (.t p20), none, 16383⟩] true)
 (.cond (.t p21) (.seq (.region [⟨some p6, .mov (.c (.bool false)), none, 0⟩] false)
 .ret) .skip))
 (.seq (.region [⟨some p22, .mov (.t p0), none, 0⟩, ⟨some p23, .mov (.t p1), none, 0⟩, ⟨some p24, .faddr 3 (.t p5), none, 0⟩, ⟨some p25, .load1 (.t p24), none, 4⟩, ⟨some p26, .call (.c (.fn 58 [] [])) [(.t p22), (.t p23), (.t p25)], none, 15⟩] false)
 (.seq (.block 0 (.seq (.region [⟨some p28, .mov (.t p1), none, 0⟩, ⟨some p29, .nilck (.t p28), none, 1⟩, ⟨some p30, .faddr 7 (.t p29), none, 3⟩, ⟨some p31, .load1 (.t p30), none, 7⟩, ⟨some p32, .bin .eql (.t p31) (.c (.int .u32 (.ofNat 0))), none, 15⟩, ⟨some p33, .mov (.t p32), none, 31⟩, ⟨some p34, .mov (.t p1), some (p33, true), 63⟩, ⟨some p35, .nilck (.t p34), some (p33, true), 127⟩, ⟨some p36, .faddr 12 (.t p35), some (p33, true), 255⟩, ⟨some p37, .load1 (.t p36), some (p33, true), 511⟩, ⟨some p38, .pick (.t p33) (.t p37) (.c (.bool false)), none, 1023⟩, ⟨some p27, .mov (.t p38), none, 2047⟩] false)
 (.cond (.t p27) (.region [⟨some p39, .mov (.t p1), none, 0⟩, ⟨some p40, .nilck (.t p39), none, 1⟩, ⟨some p41, .faddr 0 (.t p40), none, 3⟩, ⟨none, .store 1 (.t p41) (.c (.int .i64 (.ofNat 9))), none, 7⟩] false) (.seq (.region [⟨some p43, .mov (.t p1), none, 0⟩, ⟨some p44, .nilck (.t p43), none, 1⟩, ⟨some p45, .faddr 7 (.t p44), none, 3⟩, ⟨some p46, .load1 (.t p45), none, 7⟩, ⟨some p47, .bin .eql (.t p46) (.c (.int .u32 (.ofNat 0))), none, 15⟩, ⟨some p42, .mov (.t p47), none, 31⟩] false)
 (.cond (.t p42) (.region [⟨some p48, .mov (.t p1), none, 0⟩, ⟨some p49, .nilck (.t p48), none, 1⟩, ⟨some p50, .faddr 0 (.t p49), none, 3⟩, ⟨none, .store 1 (.t p50) (.c (.int .i64 (.ofNat 0))), none, 7⟩] false) .skip)))))
 (.seq (.region [⟨some p6, .mov (.c (.bool true)), none, 0⟩] false)
 .ret))))) }
theorem ok42 : cFn Tryd.prog 42 = some ef42 := by kernel_rfl
/-- (*shape.Checker).wait -/
def ef43 : EFn := { id := 43, N := 15, res := [(p6, none)], code := (.seq (.region [⟨some p5, .box (.t p2), none, 0⟩, ⟨some p6, .mov (.c (.bool false)), none, 0⟩] false)
 (.seq (.seq (.region [⟨some p7, .mov (.t p1), none, 0⟩, ⟨some p8, .nilck (.t p7), none, 1⟩, ⟨some p9, .faddr 0 (.t p8), none, 3⟩, ⟨some p10, .load1 (.t p9), none, 7⟩, ⟨some p11, .bin .neq (.t p10) (.c (.int .i64 (.ofNat 1))), none, 15⟩] false)
 (.cond (.t p11) (.seq (.region [⟨some p6, .mov (.c (.bool false)), none, 0⟩] false)
 .ret) .skip))
 (.seq (.region [⟨some p12, .mov (.t p1), none, 0⟩, ⟨some p13, .nilck (.t p12), none, 1⟩, ⟨some p14, .faddr 0 (.t p13), none, 3⟩, ⟨none, .store 1 (.t p14) (.c (.int .i64 (.ofNat 8))), none, 7⟩] false)
 (.seq (.region [⟨some p6, .mov (.c (.bool true)), none, 0⟩] false)
 .ret)))) }
theorem ok43 : cFn Tryd.prog 43 = some ef43 := by kernel_rfl
/-- (*shape.Checker).wake -/
def ef44 : EFn := { id := 44, N := 44, res := [(p6, none)], code := (.seq (.region [⟨some p5, .box (.t p2), none, 0⟩, ⟨some p6, .mov (.c (.bool false)), none, 0⟩] false)
 (.seq (.seq (.region [⟨some p8, .mov (.t p1), none, 0⟩, ⟨some p9, .nilck (.t p8), none, 1⟩, ⟨some p10, .faddr 0 (.t p9), none, 3⟩, ⟨some p11, .load1 (.t p10), none, 7⟩, ⟨some p12, .bin .neq (.t p11) (.c (.int .i64 (.ofNat 8))), none, 15⟩] false)
 (.cond (.t p12) (.seq (.region [⟨some p6, .mov (.c (.bool false)), none, 0⟩] false)
 .ret) .skip))
 (.seq (.seq (.region [⟨some p13, .mov (.t p0), none, 0⟩, ⟨some p14, .nilck (.t p13), none, 1⟩, ⟨some p15, .faddr 4 (.t p14), none, 3⟩, ⟨some p16, .load1 (.t p15), none, 7⟩, ⟨some p17, .len false (.t p16), none, 15⟩, ⟨some p18, .mov (.c (.int .i64 (.ofNat 0))), none, 0⟩] false)
 (.block 0 (.loop (.seq (.region [⟨some p19, .bin .lss (.t p18) (.t p17), none, 0⟩] false)
 (.seq (.cond (.t p19) .skip (.exit 0))
 (.seq (.block 1 (.seq (.region [⟨some p20, .mov (.t p18), none, 0⟩, ⟨some p7, .mov (.t p20), none, 1⟩] false)
 (.seq (.region [⟨some p21, .mov (.t p1), none, 0⟩, ⟨some p22, .nilck (.t p21), none, 1⟩, ⟨some p23, .faddr 6 (.t p22), none, 3⟩, ⟨some p24, .load1 (.t p23), none, 7⟩, ⟨some p25, .mov (.t p7), none, 0⟩, ⟨some p26, .bin .shr (.t p24) (.t p25), none, 31⟩, ⟨some p27, .bin .and (.t p26) (.c (.int .u32 (.ofNat 1))), none, 63⟩, ⟨some p28, .bin .eql (.t p27) (.c (.int .u32 (.ofNat 1))), none, 127⟩, ⟨some p29, .mov (.t p28), none, 255⟩, ⟨some p30, .mov (.t p0), some (p29, true), 511⟩, ⟨some p31, .mov (.t p7), some (p29, true), 511⟩, ⟨some p32, .call (.c (.fn 52 [] [])) [(.t p30), (.t p31)], some (p29, true), 2047⟩, ⟨some p33, .pick (.t p29) (.t p32) (.c (.bool false)), none, 4095⟩, ⟨some p34, .mov (.t p33), none, 8191⟩, ⟨some p35, .mov (.t p0), some (p34, true), 16383⟩, ⟨some p36, .mov (.t p7), some (p34, true), 16383⟩, ⟨some p37, .mov (.t p1), some (p34, true), 16383⟩, ⟨some p38, .call (.c (.fn 56 [] [])) [(.t p35), (.t p36), (.t p37)], some (p34, true), 131071⟩, ⟨some p39, .pick (.t p34) (.t p38) (.c (.bool false)), none, 262143⟩] false)
 (.cond (.t p39) (.seq (.region [⟨some p40, .mov (.t p1), none, 0⟩, ⟨some p41, .nilck (.t p40), none, 1⟩, ⟨some p42, .faddr 0 (.t p41), none, 3⟩, ⟨none, .store 1 (.t p42) (.c (.int .i64 (.ofNat 0))), none, 7⟩] false)
 (.seq (.region [⟨some p6, .mov (.c (.bool true)), none, 0⟩] false)
 .ret)) .skip))))
 (.region [⟨some p43, .bin .add (.t p18) (.c (.int .i64 (.ofNat 1))), none, 0⟩, ⟨some p18, .mov (.t p43), none, 1⟩] false)))))))
 (.seq (.region [⟨some p6, .mov (.c (.bool false)), none, 0⟩] false)
 .ret)))) }
theorem ok44 : cFn Tryd.prog 44 = some ef44 := by kernel_rfl
/-- slices.Equal[[]api.Pair,api.Pair] -/
def ef45 : EFn := { id := 45, N := 26, res := [(p4, none)], code := (.seq (.region [⟨some p4, .mov (.c (.bool false)), none, 0⟩] false)
 (.seq (.seq (.region [⟨some p6, .mov (.t p0), none, 0⟩, ⟨some p7, .len false (.t p6), none, 1⟩, ⟨some p8, .mov (.t p1), none, 0⟩, ⟨some p9, .len false (.t p8), none, 4⟩, ⟨some p10, .bin .neq (.t p7) (.t p9), none, 15⟩] false)
 (.cond (.t p10) (.seq (.region [⟨some p4, .mov (.c (.bool false)), none, 0⟩] false)
 .ret) .skip))
 (.seq (.seq (.region [⟨some p11, .mov (.t p0), none, 0⟩, ⟨some p12, .len false (.t p11), none, 1⟩, ⟨some p13, .mov (.c (.int .i64 (.ofNat 0))), none, 0⟩] false)
 (.block 0 (.loop (.seq (.region [⟨some p14, .bin .lss (.t p13) (.t p12), none, 0⟩] false)
 (.seq (.cond (.t p14) .skip (.exit 0))
 (.seq (.block 1 (.seq (.region [⟨some p15, .mov (.t p13), none, 0⟩, ⟨some p5, .mov (.t p15), none, 1⟩] false)
 (.seq (.region [⟨some p16, .mov (.t p0), none, 0⟩, ⟨some p17, .mov (.t p5), none, 0⟩, ⟨some p18, .iaddrS 2 (.t p16) (.t p17), none, 3⟩, ⟨some p19, .loadN 2 (.t p18), none, 7⟩, ⟨some p20, .mov (.t p1), none, 0⟩, ⟨some p21, .mov (.t p5), none, 0⟩, ⟨some p22, .iaddrS 2 (.t p20) (.t p21), none, 48⟩, ⟨some p23, .loadN 2 (.t p22), none, 112⟩, ⟨some p24, .eq true (.ints [0, 1]) (.t p19) (.t p23), none, 255⟩] true)
 (.cond (.t p24) (.seq (.region [⟨some p4, .mov (.c (.bool false)), none, 0⟩] false)
 .ret) .skip))))
 (.region [⟨some p25, .bin .add (.t p13) (.c (.int .i64 (.ofNat 1))), none, 0⟩, ⟨some p13, .mov (.t p25), none, 1⟩] false)))))))
 (.seq (.region [⟨some p4, .mov (.c (.bool true)), none, 0⟩] false)
 .ret)))) }
theorem ok45 : cFn Tryd.prog 45 = some ef45 := by kernel_rfl
/-- math/bits.Mul -/
def ef48 : EFn := { id := 48, N := 30, res := [(p4, none), (p5, none)], code := (.seq (.region [⟨some p4, .mov (.c (.int .u64 (.ofNat 0))), none, 0⟩, ⟨some p5, .mov (.c (.int .u64 (.ofNat 0))), none, 1⟩] false)
 (.seq (.cond (.c (.bool false)) (.seq (.region [⟨some p11, .mov (.t p0), none, 0⟩, ⟨some p12, .conv .u32 (.t p11), none, 1⟩, ⟨some p13, .mov (.t p1), none, 0⟩, ⟨some p14, .conv .u32 (.t p13), none, 4⟩, ⟨some p15, .call (.c (.fn 69 [] [])) [(.t p12), (.t p14)], none, 15⟩, ⟨some p10, .mov (.t p15), none, 31⟩, ⟨some p16, .ext 0 (.t p10), none, 63⟩, ⟨some p17, .ext 1 (.t p10), none, 63⟩, ⟨some p6, .mov (.t p16), none, 127⟩, ⟨some p7, .mov (.t p17), none, 511⟩] false)
 (.seq (.region [⟨some p18, .mov (.t p6), none, 0⟩, ⟨some p19, .conv .u64 (.t p18), none, 1⟩, ⟨some p20, .mov (.t p7), none, 0⟩, ⟨some p21, .conv .u64 (.t p20), none, 4⟩, ⟨some p4, .mov (.t p19), none, 3⟩, ⟨some p5, .mov (.t p21), none, 31⟩] false)
 .ret)) .skip)
 (.seq (.region [⟨some p23, .mov (.t p0), none, 0⟩, ⟨some p24, .mov (.t p1), none, 0⟩, ⟨some p25, .call (.c (.fn 70 [] [])) [(.t p23), (.t p24)], none, 3⟩, ⟨some p22, .mov (.t p25), none, 7⟩, ⟨some p26, .ext 0 (.t p22), none, 15⟩, ⟨some p27, .ext 1 (.t p22), none, 15⟩, ⟨some p8, .mov (.t p26), none, 31⟩, ⟨some p9, .mov (.t p27), none, 127⟩] false)
 (.seq (.region [⟨some p28, .mov (.t p8), none, 0⟩, ⟨some p29, .mov (.t p9), none, 0⟩, ⟨some p4, .mov (.t p28), none, 1⟩, ⟨some p5, .mov (.t p29), none, 7⟩] false)
 .ret)))) }
theorem ok48 : cFn Tryd.prog 48 = some ef48 := by kernel_rfl
/-- (*shape.Checker).free -/
def ef52 : EFn := { id := 52, N := 14, res := [(p4, none)], code := (.seq (.region [⟨some p4, .mov (.c (.bool false)), none, 0⟩] false)
 (.seq (.region [⟨some p5, .mov (.t p0), none, 0⟩, ⟨some p6, .nilck (.t p5), none, 1⟩, ⟨some p7, .faddr 4 (.t p6), none, 3⟩, ⟨some p8, .load1 (.t p7), none, 7⟩, ⟨some p9, .mov (.t p1), none, 0⟩, ⟨some p10, .iaddrS 2 (.t p8) (.t p9), none, 31⟩, ⟨some p11, .faddr 0 (.t p10), none, 63⟩, ⟨some p12, .load1 (.t p11), none, 127⟩, ⟨some p13, .bin .eql (.t p12) (.c (.int .i64 (.negSucc 0))), none, 255⟩, ⟨some p4, .mov (.t p13), none, 511⟩] false)
 .ret)) }
theorem ok52 : cFn Tryd.prog 52 = some ef52 := by kernel_rfl
/-- (*shape.Checker).still -/
def ef53 : EFn := { id := 53, N := 29, res := [(p4, none)], code := (.seq (.region [⟨some p4, .mov (.c (.bool false)), none, 0⟩] false)
 (.seq (.region [⟨some p5, .mov (.t p0), none, 0⟩, ⟨some p6, .mov (.t p1), none, 0⟩, ⟨some p7, .nilck (.t p6), none, 2⟩, ⟨some p8, .faddr 4 (.t p7), none, 6⟩, ⟨some p9, .load1 (.t p8), none, 14⟩, ⟨some p10, .call (.c (.fn 52 [] [])) [(.t p5), (.t p9)], none, 31⟩, ⟨some p11, .mov (.t p10), none, 63⟩, ⟨some p12, .mov (.t p0), some (p11, true), 127⟩, ⟨some p13, .nilck (.t p12), some (p11, true), 255⟩, ⟨some p14, .faddr 4 (.t p13), some (p11, true), 511⟩, ⟨some p15, .load1 (.t p14), some (p11, true), 1023⟩, ⟨some p16, .mov (.t p1), some (p11, true), 127⟩, ⟨some p17, .nilck (.t p16), some (p11, true), 2175⟩, ⟨some p18, .faddr 4 (.t p17), some (p11, true), 6271⟩, ⟨some p19, .load1 (.t p18), some (p11, true), 14463⟩, ⟨some p20, .iaddrS 2 (.t p15) (.t p19), some (p11, true), 32767⟩, ⟨some p21, .faddr 1 (.t p20), some (p11, true), 65535⟩, ⟨some p22, .load1 (.t p21), some (p11, true), 131071⟩, ⟨some p23, .mov (.t p1), some (p11, true), 127⟩, ⟨some p24, .nilck (.t p23), some (p11, true), 262271⟩, ⟨some p25, .faddr 5 (.t p24), some (p11, true), 786559⟩, ⟨some p26, .load1 (.t p25), some (p11, true), 1835135⟩, ⟨some p27, .bin .eql (.t p22) (.t p26), some (p11, true), 4194303⟩, ⟨some p28, .pick (.t p11) (.t p27) (.c (.bool false)), none, 8388607⟩, ⟨some p4, .mov (.t p28), none, 16777215⟩] true)
 .ret)) }
theorem ok53 : cFn Tryd.prog 53 = some ef53 := by kernel_rfl
/-- shape.least -/
def ef54 : EFn := { id := 54, N := 5, res := [(p2, none)], code := (.seq (.region [⟨some p2, .mov (.c (.int .i64 (.ofNat 0))), none, 0⟩] false)
 (.seq (.region [⟨some p3, .mov (.t p0), none, 0⟩, ⟨some p4, .call (.c (.fn 71 [] [])) [(.t p3)], none, 1⟩, ⟨some p2, .mov (.t p4), none, 3⟩] false)
 .ret)) }
theorem ok54 : cFn Tryd.prog 54 = some ef54 := by kernel_rfl
/-- (*shape.Checker).others -/
def ef55 : EFn := { id := 55, N := 24, res := [(p6, none)], code := (.seq (.region [⟨some p5, .box (.t p2), none, 0⟩, ⟨some p6, .mov (.c (.bool false)), none, 0⟩] false)
 (.seq (.region [⟨some p7, .mov (.t p0), none, 0⟩, ⟨some p8, .mov (.t p1), none, 0⟩, ⟨some p9, .call (.c (.fn 52 [] [])) [(.t p7), (.t p8)], none, 3⟩, ⟨some p10, .un .not (.t p9), none, 7⟩, ⟨some p11, .mov (.t p10), none, 15⟩, ⟨some p12, .mov (.t p0), some (p11, true), 31⟩, ⟨some p13, .nilck (.t p12), some (p11, true), 63⟩, ⟨some p14, .faddr 4 (.t p13), some (p11, true), 127⟩, ⟨some p15, .load1 (.t p14), some (p11, true), 255⟩, ⟨some p16, .mov (.t p1), some (p11, true), 31⟩, ⟨some p17, .iaddrS 2 (.t p15) (.t p16), some (p11, true), 1023⟩, ⟨some p18, .faddr 0 (.t p17), some (p11, true), 2047⟩, ⟨some p19, .load1 (.t p18), some (p11, true), 4095⟩, ⟨some p20, .faddr 1 (.t p5), some (p11, true), 31⟩, ⟨some p21, .load1 (.t p20), some (p11, true), 8223⟩, ⟨some p22, .bin .neq (.t p19) (.t p21), some (p11, true), 32767⟩, ⟨some p23, .pick (.t p11) (.t p22) (.c (.bool false)), none, 65535⟩, ⟨some p6, .mov (.t p23), none, 131071⟩] true)
 .ret)) }
theorem ok55 : cFn Tryd.prog 55 = some ef55 := by kernel_rfl
/-- (*shape.Checker).newer -/
def ef56 : EFn := { id := 56, N := 20, res := [(p6, none)], code := (.seq (.region [⟨some p6, .mov (.c (.bool false)), none, 0⟩] false)
 (.seq (.region [⟨some p7, .mov (.t p0), none, 0⟩, ⟨some p8, .nilck (.t p7), none, 1⟩, ⟨some p9, .faddr 4 (.t p8), none, 3⟩, ⟨some p10, .load1 (.t p9), none, 7⟩, ⟨some p11, .mov (.t p1), none, 0⟩, ⟨some p12, .iaddrS 2 (.t p10) (.t p11), none, 31⟩, ⟨some p13, .faddr 1 (.t p12), none, 63⟩, ⟨some p14, .load1 (.t p13), none, 127⟩, ⟨some p15, .mov (.t p2), none, 0⟩, ⟨some p16, .nilck (.t p15), none, 256⟩, ⟨some p17, .faddr 2 (.t p16), none, 768⟩, ⟨some p18, .load1 (.t p17), none, 1792⟩, ⟨some p19, .bin .gtr (.t p14) (.t p18), none, 4095⟩, ⟨some p6, .mov (.t p19), none, 8191⟩] true)
 .ret)) }
theorem ok56 : cFn Tryd.prog 56 = some ef56 := by kernel_rfl
/-- (*shape.thread).ends -/
def ef57 : EFn := { id := 57, N := 12, res := [], code := (.seq (.region [⟨some p2, .mov (.t p0), none, 0⟩, ⟨some p3, .nilck (.t p2), none, 1⟩, ⟨some p4, .faddr 0 (.t p3), none, 3⟩, ⟨none, .store 1 (.t p4) (.c (.int .i64 (.ofNat 0))), none, 7⟩] false)
 (.region [⟨some p5, .mov (.t p0), none, 0⟩, ⟨some p6, .nilck (.t p5), none, 1⟩, ⟨some p7, .faddr 1 (.t p6), none, 3⟩, ⟨some p8, .load1 (.t p7), none, 7⟩, ⟨some p9, .bin .add (.t p8) (.c (.int .i64 (.ofNat 1))), none, 15⟩, ⟨some p10, .nilck (.t p5), none, 31⟩, ⟨some p11, .faddr 1 (.t p10), none, 63⟩, ⟨none, .store 1 (.t p11) (.t p9), none, 127⟩] false)) }
theorem ok57 : cFn Tryd.prog 57 = some ef57 := by kernel_rfl
/-- (*shape.Checker).leave -/
def ef58 : EFn := { id := 58, N := 22, res := [], code := (.seq (.region [⟨some p6, .mov (.t p1), none, 0⟩, ⟨some p7, .nilck (.t p6), none, 1⟩, ⟨some p8, .faddr 7 (.t p7), none, 3⟩, ⟨some p9, .load1 (.t p8), none, 7⟩, ⟨some p10, .mov (.t p2), none, 0⟩, ⟨some p11, .bin .shl (.c (.int .u32 (.ofNat 1))) (.t p10), none, 16⟩, ⟨some p12, .bin .andNot (.t p9) (.t p11), none, 63⟩, ⟨some p13, .nilck (.t p6), none, 127⟩, ⟨some p14, .faddr 7 (.t p13), none, 255⟩, ⟨none, .store 1 (.t p14) (.t p12), none, 511⟩] true)
 (.region [⟨some p15, .mov (.t p0), none, 0⟩, ⟨some p16, .nilck (.t p15), none, 1⟩, ⟨some p17, .faddr 4 (.t p16), none, 3⟩, ⟨some p18, .load1 (.t p17), none, 7⟩, ⟨some p19, .mov (.t p2), none, 0⟩, ⟨some p20, .iaddrS 2 (.t p18) (.t p19), none, 31⟩, ⟨some p21, .faddr 0 (.t p20), none, 63⟩, ⟨none, .store 1 (.t p21) (.c (.int .i64 (.negSucc 0))), none, 127⟩] false)) }
theorem ok58 : cFn Tryd.prog 58 = some ef58 := by kernel_rfl
/-- math/bits.Mul32 -/
def ef69 : EFn := { id := 69, N := 17, res := [(p4, none), (p5, none)], code := (.seq (.region [⟨some p4, .mov (.c (.int .u32 (.ofNat 0))), none, 0⟩, ⟨some p5, .mov (.c (.int .u32 (.ofNat 0))), none, 1⟩] false)
 (.seq (.region [⟨some p7, .mov (.t p0), none, 0⟩, ⟨some p8, .conv .u64 (.t p7), none, 1⟩, ⟨some p9, .mov (.t p1), none, 0⟩, ⟨some p10, .conv .u64 (.t p9), none, 4⟩, ⟨some p11, .bin .mul (.t p8) (.t p10), none, 15⟩, ⟨some p6, .mov (.t p11), none, 31⟩] false)
 (.seq (.region [⟨some p12, .mov (.t p6), none, 0⟩, ⟨some p13, .bin .shr (.t p12) (.c (.int .u64 (.ofNat 32))), none, 1⟩, ⟨some p14, .conv .u32 (.t p13), none, 3⟩, ⟨some p15, .mov (.t p6), none, 0⟩, ⟨some p16, .conv .u32 (.t p15), none, 8⟩, ⟨some p4, .mov (.t p14), none, 7⟩, ⟨some p5, .mov (.t p16), none, 63⟩] false)
 .ret))) }
theorem ok69 : cFn Tryd.prog 69 = some ef69 := by kernel_rfl
/-- math/bits.Mul64 -/
def ef70 : EFn := { id := 70, N := 51, res := [(p4, none), (p5, none)], code := (.seq (.region [⟨some p4, .mov (.c (.int .u64 (.ofNat 0))), none, 0⟩, ⟨some p5, .mov (.c (.int .u64 (.ofNat 0))), none, 1⟩] false)
 (.seq (.region [⟨some p14, .mov (.t p0), none, 0⟩, ⟨some p15, .bin .and (.t p14) (.c (.int .u64 (.ofNat 4294967295))), none, 1⟩, ⟨some p6, .mov (.t p15), none, 3⟩] false)
 (.seq (.region [⟨some p16, .mov (.t p0), none, 0⟩, ⟨some p17, .bin .shr (.t p16) (.c (.int .u64 (.ofNat 32))), none, 1⟩, ⟨some p7, .mov (.t p17), none, 3⟩] false)
 (.seq (.region [⟨some p18, .mov (.t p1), none, 0⟩, ⟨some p19, .bin .and (.t p18) (.c (.int .u64 (.ofNat 4294967295))), none, 1⟩, ⟨some p8, .mov (.t p19), none, 3⟩] false)
 (.seq (.region [⟨some p20, .mov (.t p1), none, 0⟩, ⟨some p21, .bin .shr (.t p20) (.c (.int .u64 (.ofNat 32))), none, 1⟩, ⟨some p9, .mov (.t p21), none, 3⟩] false)
 (.seq (.region [⟨some p22, .mov (.t p6), none, 0⟩, ⟨some p23, .mov (.t p8), none, 0⟩, ⟨some p24, .bin .mul (.t p22) (.t p23), none, 3⟩, ⟨some p10, .mov (.t p24), none, 7⟩] false)
 (.seq (.region [⟨some p25, .mov (.t p7), none, 0⟩, ⟨some p26, .mov (.t p8), none, 0⟩, ⟨some p27, .bin .mul (.t p25) (.t p26), none, 3⟩, ⟨some p28, .mov (.t p10), none, 0⟩, ⟨some p29, .bin .shr (.t p28) (.c (.int .u64 (.ofNat 32))), none, 8⟩, ⟨some p30, .bin .add (.t p27) (.t p29), none, 31⟩, ⟨some p11, .mov (.t p30), none, 63⟩] false)
 (.seq (.region [⟨some p31, .mov (.t p11), none, 0⟩, ⟨some p32, .bin .and (.t p31) (.c (.int .u64 (.ofNat 4294967295))), none, 1⟩, ⟨some p12, .mov (.t p32), none, 3⟩] false)
 (.seq (.region [⟨some p33, .mov (.t p11), none, 0⟩, ⟨some p34, .bin .shr (.t p33) (.c (.int .u64 (.ofNat 32))), none, 1⟩, ⟨some p13, .mov (.t p34), none, 3⟩] false)
 (.seq (.region [⟨some p35, .mov (.t p12), none, 0⟩, ⟨some p36, .mov (.t p6), none, 0⟩, ⟨some p37, .mov (.t p9), none, 0⟩, ⟨some p38, .bin .mul (.t p36) (.t p37), none, 6⟩, ⟨some p39, .bin .add (.t p35) (.t p38), none, 15⟩, ⟨some p12, .mov (.t p39), none, 31⟩] false)
 (.seq (.region [⟨some p40, .mov (.t p7), none, 0⟩, ⟨some p41, .mov (.t p9), none, 0⟩, ⟨some p42, .bin .mul (.t p40) (.t p41), none, 3⟩, ⟨some p43, .mov (.t p13), none, 0⟩, ⟨some p44, .bin .add (.t p42) (.t p43), none, 15⟩, ⟨some p45, .mov (.t p12), none, 0⟩, ⟨some p46, .bin .shr (.t p45) (.c (.int .u64 (.ofNat 32))), none, 32⟩, ⟨some p47, .bin .add (.t p44) (.t p46), none, 127⟩, ⟨some p4, .mov (.t p47), none, 255⟩] false)
 (.seq (.region [⟨some p48, .mov (.t p0), none, 0⟩, ⟨some p49, .mov (.t p1), none, 0⟩, ⟨some p50, .bin .mul (.t p48) (.t p49), none, 3⟩, ⟨some p5, .mov (.t p50), none, 7⟩] false)
 .ret)))))))))))) }
theorem ok70 : cFn Tryd.prog 70 = some ef70 := by kernel_rfl
/-- math/bits.TrailingZeros32 -/
def ef71 : EFn := { id := 71, N := 14, res := [(p2, none)], code := (.seq (.region [⟨some p2, .mov (.c (.int .i64 (.ofNat 0))), none, 0⟩] false)
 (.seq (.seq (.region [⟨some p3, .mov (.t p0), none, 0⟩, ⟨some p4, .bin .eql (.t p3) (.c (.int .u32 (.ofNat 0))), none, 1⟩] false)
 (.cond (.t p4) (.seq (.region [⟨some p2, .mov (.c (.int .i64 (.ofNat 32))), none, 0⟩] false)
 .ret) .skip))
 (.seq (.region [⟨some p5, .mov (.t p0), none, 0⟩, ⟨some p6, .mov (.t p0), none, 0⟩, ⟨some p7, .un .neg (.t p6), none, 2⟩, ⟨some p8, .bin .and (.t p5) (.t p7), none, 7⟩, ⟨some p9, .bin .mul (.t p8) (.c (.int .u32 (.ofNat 125613361))), none, 15⟩, ⟨some p10, .bin .shr (.t p9) (.c (.int .u64 (.ofNat 27))), none, 31⟩, ⟨some p11, .iaddrA 32 1 (.g 1) (.t p10), none, 63⟩, ⟨some p12, .load1 (.t p11), none, 127⟩, ⟨some p13, .conv .i64 (.t p12), none, 255⟩, ⟨some p2, .mov (.t p13), none, 511⟩] false)
 .ret))) }
theorem ok71 : cFn Tryd.prog 71 = some ef71 := by kernel_rfl
noncomputable def ft : Tri EFn := mkFT [ef7, ef9, ef10, ef11, ef12, ef13, ef14, ef15, ef16, ef17, ef18, ef21, ef22, ef23, ef24, ef25, ef26, ef29, ef30, ef32, ef33, ef34, ef35, ef36, ef37, ef38, ef39, ef40, ef41, ef42, ef43, ef44, ef45, ef48, ef52, ef53, ef54, ef55, ef56, ef57, ef58, ef69, ef70, ef71]
theorem ftok : FTok Tryd.prog ft := FTok.cons ok7 (FTok.cons ok9 (FTok.cons ok10 (FTok.cons ok11 (FTok.cons ok12 (FTok.cons ok13 (FTok.cons ok14 (FTok.cons ok15 (FTok.cons ok16 (FTok.cons ok17 (FTok.cons ok18 (FTok.cons ok21 (FTok.cons ok22 (FTok.cons ok23 (FTok.cons ok24 (FTok.cons ok25 (FTok.cons ok26 (FTok.cons ok29 (FTok.cons ok30 (FTok.cons ok32 (FTok.cons ok33 (FTok.cons ok34 (FTok.cons ok35 (FTok.cons ok36 (FTok.cons ok37 (FTok.cons ok38 (FTok.cons ok39 (FTok.cons ok40 (FTok.cons ok41 (FTok.cons ok42 (FTok.cons ok43 (FTok.cons ok44 (FTok.cons ok45 (FTok.cons ok48 (FTok.cons ok52 (FTok.cons ok53 (FTok.cons ok54 (FTok.cons ok55 (FTok.cons ok56 (FTok.cons ok57 (FTok.cons ok58 (FTok.cons ok69 (FTok.cons ok70 (FTok.cons ok71 (FTok.nil _))))))))))))))))))))))))))))))))))))))))))))
end Go.Proofs.YtjckgagkkknmnaaDoor.Rk
