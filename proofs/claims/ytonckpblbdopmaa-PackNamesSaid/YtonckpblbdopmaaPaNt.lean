/-
  The functions as they are reckoned: printed by tools/gen_rk.py out of the program's own form; each is held against it.
-/
import Derived.Test.YtonckpblbdopmaaRup
import Derived.Test.YtonckpblbdopmaaProg
namespace Go.Proofs.Ytonckpblbdopmaa.Rk
set_option linter.unusedVariables false
open Go
set_option maxRecDepth 100000
set_option maxHeartbeats 4000000

def p0 : Pt := .e
def p1 : Pt := .l (.e)
def p2 : Pt := .r (.e)
def p3 : Pt := .l (.l (.e))
def p4 : Pt := .r (.l (.e))
def p5 : Pt := .l (.r (.e))
def p6 : Pt := .r (.r (.e))
def p7 : Pt := .l (.l (.l (.e)))
def p8 : Pt := .r (.l (.l (.e)))
def p9 : Pt := .l (.r (.l (.e)))
def p10 : Pt := .r (.r (.l (.e)))
def p11 : Pt := .l (.l (.r (.e)))
def p12 : Pt := .r (.l (.r (.e)))
def p13 : Pt := .l (.r (.r (.e)))
def p14 : Pt := .r (.r (.r (.e)))
def p15 : Pt := .l (.l (.l (.l (.e))))
def p16 : Pt := .r (.l (.l (.l (.e))))
def p17 : Pt := .l (.r (.l (.l (.e))))
def p18 : Pt := .r (.r (.l (.l (.e))))
def p19 : Pt := .l (.l (.r (.l (.e))))
def p20 : Pt := .r (.l (.r (.l (.e))))
def p21 : Pt := .l (.r (.r (.l (.e))))
def p22 : Pt := .r (.r (.r (.l (.e))))
def p23 : Pt := .l (.l (.l (.r (.e))))
def p24 : Pt := .r (.l (.l (.r (.e))))
def p25 : Pt := .l (.r (.l (.r (.e))))
def p26 : Pt := .r (.r (.l (.r (.e))))
def p27 : Pt := .l (.l (.r (.r (.e))))
def p28 : Pt := .r (.l (.r (.r (.e))))
def p29 : Pt := .l (.r (.r (.r (.e))))
def p30 : Pt := .r (.r (.r (.r (.e))))
def p31 : Pt := .l (.l (.l (.l (.l (.e)))))
def p32 : Pt := .r (.l (.l (.l (.l (.e)))))
def p33 : Pt := .l (.r (.l (.l (.l (.e)))))
def p34 : Pt := .r (.r (.l (.l (.l (.e)))))
def p35 : Pt := .l (.l (.r (.l (.l (.e)))))
def p36 : Pt := .r (.l (.r (.l (.l (.e)))))
def p37 : Pt := .l (.r (.r (.l (.l (.e)))))
def p38 : Pt := .r (.r (.r (.l (.l (.e)))))
def p39 : Pt := .l (.l (.l (.r (.l (.e)))))
def p40 : Pt := .r (.l (.l (.r (.l (.e)))))
def p41 : Pt := .l (.r (.l (.r (.l (.e)))))
def p42 : Pt := .r (.r (.l (.r (.l (.e)))))
def p43 : Pt := .l (.l (.r (.r (.l (.e)))))
def p44 : Pt := .r (.l (.r (.r (.l (.e)))))
def p45 : Pt := .l (.r (.r (.r (.l (.e)))))
def p46 : Pt := .r (.r (.r (.r (.l (.e)))))
def p47 : Pt := .l (.l (.l (.l (.r (.e)))))
def p48 : Pt := .r (.l (.l (.l (.r (.e)))))
def p49 : Pt := .l (.r (.l (.l (.r (.e)))))
def p50 : Pt := .r (.r (.l (.l (.r (.e)))))
def p51 : Pt := .l (.l (.r (.l (.r (.e)))))
def p52 : Pt := .r (.l (.r (.l (.r (.e)))))
def p53 : Pt := .l (.r (.r (.l (.r (.e)))))
def p54 : Pt := .r (.r (.r (.l (.r (.e)))))
def p55 : Pt := .l (.l (.l (.r (.r (.e)))))
def p56 : Pt := .r (.l (.l (.r (.r (.e)))))
def p57 : Pt := .l (.r (.l (.r (.r (.e)))))
def p58 : Pt := .r (.r (.l (.r (.r (.e)))))
def p59 : Pt := .l (.l (.r (.r (.r (.e)))))
def p60 : Pt := .r (.l (.r (.r (.r (.e)))))
def p61 : Pt := .l (.r (.r (.r (.r (.e)))))
def p62 : Pt := .r (.r (.r (.r (.r (.e)))))
def p63 : Pt := .l (.l (.l (.l (.l (.l (.e))))))
def p64 : Pt := .r (.l (.l (.l (.l (.l (.e))))))
def p65 : Pt := .l (.r (.l (.l (.l (.l (.e))))))
def p66 : Pt := .r (.r (.l (.l (.l (.l (.e))))))
def p67 : Pt := .l (.l (.r (.l (.l (.l (.e))))))
def p68 : Pt := .r (.l (.r (.l (.l (.l (.e))))))
def p69 : Pt := .l (.r (.r (.l (.l (.l (.e))))))
def p70 : Pt := .r (.r (.r (.l (.l (.l (.e))))))
def p71 : Pt := .l (.l (.l (.r (.l (.l (.e))))))
def p72 : Pt := .r (.l (.l (.r (.l (.l (.e))))))
def p73 : Pt := .l (.r (.l (.r (.l (.l (.e))))))
def p74 : Pt := .r (.r (.l (.r (.l (.l (.e))))))
def p75 : Pt := .l (.l (.r (.r (.l (.l (.e))))))
def p76 : Pt := .r (.l (.r (.r (.l (.l (.e))))))
def p77 : Pt := .l (.r (.r (.r (.l (.l (.e))))))
def p78 : Pt := .r (.r (.r (.r (.l (.l (.e))))))
def p79 : Pt := .l (.l (.l (.l (.r (.l (.e))))))
def p80 : Pt := .r (.l (.l (.l (.r (.l (.e))))))
def p81 : Pt := .l (.r (.l (.l (.r (.l (.e))))))
def p82 : Pt := .r (.r (.l (.l (.r (.l (.e))))))
def p83 : Pt := .l (.l (.r (.l (.r (.l (.e))))))
def p84 : Pt := .r (.l (.r (.l (.r (.l (.e))))))
def p85 : Pt := .l (.r (.r (.l (.r (.l (.e))))))
def p86 : Pt := .r (.r (.r (.l (.r (.l (.e))))))
def p87 : Pt := .l (.l (.l (.r (.r (.l (.e))))))
def p88 : Pt := .r (.l (.l (.r (.r (.l (.e))))))
def p89 : Pt := .l (.r (.l (.r (.r (.l (.e))))))
def p90 : Pt := .r (.r (.l (.r (.r (.l (.e))))))
def p91 : Pt := .l (.l (.r (.r (.r (.l (.e))))))
def p92 : Pt := .r (.l (.r (.r (.r (.l (.e))))))
def p93 : Pt := .l (.r (.r (.r (.r (.l (.e))))))
def p94 : Pt := .r (.r (.r (.r (.r (.l (.e))))))
def p95 : Pt := .l (.l (.l (.l (.l (.r (.e))))))
def p96 : Pt := .r (.l (.l (.l (.l (.r (.e))))))
def p97 : Pt := .l (.r (.l (.l (.l (.r (.e))))))
def p98 : Pt := .r (.r (.l (.l (.l (.r (.e))))))
def p99 : Pt := .l (.l (.r (.l (.l (.r (.e))))))
def p100 : Pt := .r (.l (.r (.l (.l (.r (.e))))))
def p101 : Pt := .l (.r (.r (.l (.l (.r (.e))))))
def p102 : Pt := .r (.r (.r (.l (.l (.r (.e))))))
def p103 : Pt := .l (.l (.l (.r (.l (.r (.e))))))
def p104 : Pt := .r (.l (.l (.r (.l (.r (.e))))))
def p105 : Pt := .l (.r (.l (.r (.l (.r (.e))))))
def p106 : Pt := .r (.r (.l (.r (.l (.r (.e))))))
def p107 : Pt := .l (.l (.r (.r (.l (.r (.e))))))
def p108 : Pt := .r (.l (.r (.r (.l (.r (.e))))))
def p109 : Pt := .l (.r (.r (.r (.l (.r (.e))))))
def p110 : Pt := .r (.r (.r (.r (.l (.r (.e))))))
def p111 : Pt := .l (.l (.l (.l (.r (.r (.e))))))
def p112 : Pt := .r (.l (.l (.l (.r (.r (.e))))))
def p113 : Pt := .l (.r (.l (.l (.r (.r (.e))))))
def p114 : Pt := .r (.r (.l (.l (.r (.r (.e))))))
def p115 : Pt := .l (.l (.r (.l (.r (.r (.e))))))
def p116 : Pt := .r (.l (.r (.l (.r (.r (.e))))))
def p117 : Pt := .l (.r (.r (.l (.r (.r (.e))))))
def p118 : Pt := .r (.r (.r (.l (.r (.r (.e))))))
def p119 : Pt := .l (.l (.l (.r (.r (.r (.e))))))
def p120 : Pt := .r (.l (.l (.r (.r (.r (.e))))))
def p121 : Pt := .l (.r (.l (.r (.r (.r (.e))))))
def p122 : Pt := .r (.r (.l (.r (.r (.r (.e))))))
def p123 : Pt := .l (.l (.r (.r (.r (.r (.e))))))
def p124 : Pt := .r (.l (.r (.r (.r (.r (.e))))))
def p125 : Pt := .l (.r (.r (.r (.r (.r (.e))))))
def p126 : Pt := .r (.r (.r (.r (.r (.r (.e))))))
def p127 : Pt := .l (.l (.l (.l (.l (.l (.l (.e)))))))
def p128 : Pt := .r (.l (.l (.l (.l (.l (.l (.e)))))))
def p129 : Pt := .l (.r (.l (.l (.l (.l (.l (.e)))))))
def p130 : Pt := .r (.r (.l (.l (.l (.l (.l (.e)))))))
def p131 : Pt := .l (.l (.r (.l (.l (.l (.l (.e)))))))
def p132 : Pt := .r (.l (.r (.l (.l (.l (.l (.e)))))))
def p133 : Pt := .l (.r (.r (.l (.l (.l (.l (.e)))))))
def p134 : Pt := .r (.r (.r (.l (.l (.l (.l (.e)))))))
def p135 : Pt := .l (.l (.l (.r (.l (.l (.l (.e)))))))
def p136 : Pt := .r (.l (.l (.r (.l (.l (.l (.e)))))))
def p137 : Pt := .l (.r (.l (.r (.l (.l (.l (.e)))))))
def p138 : Pt := .r (.r (.l (.r (.l (.l (.l (.e)))))))
def p139 : Pt := .l (.l (.r (.r (.l (.l (.l (.e)))))))
def p140 : Pt := .r (.l (.r (.r (.l (.l (.l (.e)))))))
def p141 : Pt := .l (.r (.r (.r (.l (.l (.l (.e)))))))
def p142 : Pt := .r (.r (.r (.r (.l (.l (.l (.e)))))))
def p143 : Pt := .l (.l (.l (.l (.r (.l (.l (.e)))))))
def p144 : Pt := .r (.l (.l (.l (.r (.l (.l (.e)))))))
def p145 : Pt := .l (.r (.l (.l (.r (.l (.l (.e)))))))
def p146 : Pt := .r (.r (.l (.l (.r (.l (.l (.e)))))))
def p147 : Pt := .l (.l (.r (.l (.r (.l (.l (.e)))))))
def p148 : Pt := .r (.l (.r (.l (.r (.l (.l (.e)))))))
def p149 : Pt := .l (.r (.r (.l (.r (.l (.l (.e)))))))
def p150 : Pt := .r (.r (.r (.l (.r (.l (.l (.e)))))))
def p151 : Pt := .l (.l (.l (.r (.r (.l (.l (.e)))))))
def p152 : Pt := .r (.l (.l (.r (.r (.l (.l (.e)))))))
def p153 : Pt := .l (.r (.l (.r (.r (.l (.l (.e)))))))
def p154 : Pt := .r (.r (.l (.r (.r (.l (.l (.e)))))))
def p155 : Pt := .l (.l (.r (.r (.r (.l (.l (.e)))))))
def p156 : Pt := .r (.l (.r (.r (.r (.l (.l (.e)))))))
def p157 : Pt := .l (.r (.r (.r (.r (.l (.l (.e)))))))
def p158 : Pt := .r (.r (.r (.r (.r (.l (.l (.e)))))))
def p159 : Pt := .l (.l (.l (.l (.l (.r (.l (.e)))))))
def p160 : Pt := .r (.l (.l (.l (.l (.r (.l (.e)))))))
def p161 : Pt := .l (.r (.l (.l (.l (.r (.l (.e)))))))
def p162 : Pt := .r (.r (.l (.l (.l (.r (.l (.e)))))))
def p163 : Pt := .l (.l (.r (.l (.l (.r (.l (.e)))))))
def p164 : Pt := .r (.l (.r (.l (.l (.r (.l (.e)))))))
def p165 : Pt := .l (.r (.r (.l (.l (.r (.l (.e)))))))
def p166 : Pt := .r (.r (.r (.l (.l (.r (.l (.e)))))))
def p167 : Pt := .l (.l (.l (.r (.l (.r (.l (.e)))))))
def p168 : Pt := .r (.l (.l (.r (.l (.r (.l (.e)))))))
def p169 : Pt := .l (.r (.l (.r (.l (.r (.l (.e)))))))
def p170 : Pt := .r (.r (.l (.r (.l (.r (.l (.e)))))))
def p171 : Pt := .l (.l (.r (.r (.l (.r (.l (.e)))))))
def p172 : Pt := .r (.l (.r (.r (.l (.r (.l (.e)))))))
def p173 : Pt := .l (.r (.r (.r (.l (.r (.l (.e)))))))
def p174 : Pt := .r (.r (.r (.r (.l (.r (.l (.e)))))))
def p175 : Pt := .l (.l (.l (.l (.r (.r (.l (.e)))))))
def p176 : Pt := .r (.l (.l (.l (.r (.r (.l (.e)))))))
def p177 : Pt := .l (.r (.l (.l (.r (.r (.l (.e)))))))
def p178 : Pt := .r (.r (.l (.l (.r (.r (.l (.e)))))))
def p179 : Pt := .l (.l (.r (.l (.r (.r (.l (.e)))))))
def p180 : Pt := .r (.l (.r (.l (.r (.r (.l (.e)))))))
def p181 : Pt := .l (.r (.r (.l (.r (.r (.l (.e)))))))
def p182 : Pt := .r (.r (.r (.l (.r (.r (.l (.e)))))))
def p183 : Pt := .l (.l (.l (.r (.r (.r (.l (.e)))))))
def p184 : Pt := .r (.l (.l (.r (.r (.r (.l (.e)))))))
def p185 : Pt := .l (.r (.l (.r (.r (.r (.l (.e)))))))
def p186 : Pt := .r (.r (.l (.r (.r (.r (.l (.e)))))))
def p187 : Pt := .l (.l (.r (.r (.r (.r (.l (.e)))))))
def p188 : Pt := .r (.l (.r (.r (.r (.r (.l (.e)))))))
def p189 : Pt := .l (.r (.r (.r (.r (.r (.l (.e)))))))
def p190 : Pt := .r (.r (.r (.r (.r (.r (.l (.e)))))))
def p191 : Pt := .l (.l (.l (.l (.l (.l (.r (.e)))))))
def p192 : Pt := .r (.l (.l (.l (.l (.l (.r (.e)))))))
def p193 : Pt := .l (.r (.l (.l (.l (.l (.r (.e)))))))
def p194 : Pt := .r (.r (.l (.l (.l (.l (.r (.e)))))))
def p195 : Pt := .l (.l (.r (.l (.l (.l (.r (.e)))))))
def p196 : Pt := .r (.l (.r (.l (.l (.l (.r (.e)))))))
def p197 : Pt := .l (.r (.r (.l (.l (.l (.r (.e)))))))
def p198 : Pt := .r (.r (.r (.l (.l (.l (.r (.e)))))))
def p199 : Pt := .l (.l (.l (.r (.l (.l (.r (.e)))))))
def p200 : Pt := .r (.l (.l (.r (.l (.l (.r (.e)))))))
def p201 : Pt := .l (.r (.l (.r (.l (.l (.r (.e)))))))
def p202 : Pt := .r (.r (.l (.r (.l (.l (.r (.e)))))))
def p203 : Pt := .l (.l (.r (.r (.l (.l (.r (.e)))))))
def p204 : Pt := .r (.l (.r (.r (.l (.l (.r (.e)))))))
def p205 : Pt := .l (.r (.r (.r (.l (.l (.r (.e)))))))
def p206 : Pt := .r (.r (.r (.r (.l (.l (.r (.e)))))))
def p207 : Pt := .l (.l (.l (.l (.r (.l (.r (.e)))))))
def p208 : Pt := .r (.l (.l (.l (.r (.l (.r (.e)))))))
def p209 : Pt := .l (.r (.l (.l (.r (.l (.r (.e)))))))
def p210 : Pt := .r (.r (.l (.l (.r (.l (.r (.e)))))))
def p211 : Pt := .l (.l (.r (.l (.r (.l (.r (.e)))))))
def p212 : Pt := .r (.l (.r (.l (.r (.l (.r (.e)))))))
def p213 : Pt := .l (.r (.r (.l (.r (.l (.r (.e)))))))
def p214 : Pt := .r (.r (.r (.l (.r (.l (.r (.e)))))))
def p215 : Pt := .l (.l (.l (.r (.r (.l (.r (.e)))))))
def p216 : Pt := .r (.l (.l (.r (.r (.l (.r (.e)))))))
def p217 : Pt := .l (.r (.l (.r (.r (.l (.r (.e)))))))
def p218 : Pt := .r (.r (.l (.r (.r (.l (.r (.e)))))))
def p219 : Pt := .l (.l (.r (.r (.r (.l (.r (.e)))))))
def p220 : Pt := .r (.l (.r (.r (.r (.l (.r (.e)))))))
def p221 : Pt := .l (.r (.r (.r (.r (.l (.r (.e)))))))
def p222 : Pt := .r (.r (.r (.r (.r (.l (.r (.e)))))))
def p223 : Pt := .l (.l (.l (.l (.l (.r (.r (.e)))))))
def p224 : Pt := .r (.l (.l (.l (.l (.r (.r (.e)))))))
def p225 : Pt := .l (.r (.l (.l (.l (.r (.r (.e)))))))
def p226 : Pt := .r (.r (.l (.l (.l (.r (.r (.e)))))))
def p227 : Pt := .l (.l (.r (.l (.l (.r (.r (.e)))))))
def p228 : Pt := .r (.l (.r (.l (.l (.r (.r (.e)))))))
def p229 : Pt := .l (.r (.r (.l (.l (.r (.r (.e)))))))
def p230 : Pt := .r (.r (.r (.l (.l (.r (.r (.e)))))))
def p231 : Pt := .l (.l (.l (.r (.l (.r (.r (.e)))))))
def p232 : Pt := .r (.l (.l (.r (.l (.r (.r (.e)))))))
def p233 : Pt := .l (.r (.l (.r (.l (.r (.r (.e)))))))
def p234 : Pt := .r (.r (.l (.r (.l (.r (.r (.e)))))))
def p235 : Pt := .l (.l (.r (.r (.l (.r (.r (.e)))))))
def p236 : Pt := .r (.l (.r (.r (.l (.r (.r (.e)))))))
def p237 : Pt := .l (.r (.r (.r (.l (.r (.r (.e)))))))
def p238 : Pt := .r (.r (.r (.r (.l (.r (.r (.e)))))))
def p239 : Pt := .l (.l (.l (.l (.r (.r (.r (.e)))))))
def p240 : Pt := .r (.l (.l (.l (.r (.r (.r (.e)))))))
def p241 : Pt := .l (.r (.l (.l (.r (.r (.r (.e)))))))
def p242 : Pt := .r (.r (.l (.l (.r (.r (.r (.e)))))))
def p243 : Pt := .l (.l (.r (.l (.r (.r (.r (.e)))))))
/-- seesawlaw07.PackNames -/
def ef16 : EFn := { id := 16, N := 244, res := [(p0, none)], code := (.seq (.region [⟨some p0, .mov (.c (.bool false)), none, 0⟩] false)
 (.seq (.seq (.region [⟨some p21, .call (.c (.fn 55 [] [])) [], none, 0⟩, ⟨some p22, .un .not (.t p21), none, 1⟩, ⟨some p23, .mov (.t p22), none, 3⟩, ⟨some p24, .pick (.t p23) (.c (.bool true)) (.c (.bool false)), none, 7⟩, ⟨some p25, .mov (.t p24), none, 15⟩, ⟨some p26, .pick (.t p25) (.c (.bool true)) (.c (.bool false)), none, 31⟩, ⟨some p27, .mov (.t p26), none, 63⟩, ⟨some p28, .pick (.t p27) (.c (.bool true)) (.c (.bool false)), none, 127⟩, ⟨some p29, .mov (.t p28), none, 255⟩, ⟨some p30, .pick (.t p29) (.c (.bool true)) (.c (.bool false)), none, 511⟩] false)
 (.cond (.t p30) (.seq (.region [⟨some p0, .mov (.c (.bool false)), none, 0⟩] false)
 .ret) .skip))
 (.seq (.region [⟨some p31, .build [(.int .u8 (.ofNat 0)), (.int .i64 (.ofNat 0)), .nils] [(0, 1, (.c (.int .u8 (.ofNat 1)))), (1, 1, (.c (.int .i64 (.negSucc 2))))], none, 0⟩, ⟨some p32, .build [(.int .u8 (.ofNat 0)), (.int .i64 (.ofNat 0)), .nils] [(0, 1, (.c (.int .u8 (.ofNat 2)))), (1, 1, (.c (.int .i64 (.ofNat 7))))], none, 0⟩, ⟨some p1, .alloc [(.int .u8 (.ofNat 0)), (.int .i64 (.ofNat 0)), .nils], none, 0⟩, ⟨some p2, .alloc [(.int .u8 (.ofNat 0)), (.int .i64 (.ofNat 0)), .nils], none, 0⟩, ⟨none, .store 3 (.t p1) (.t p31), none, 13⟩, ⟨none, .store 3 (.t p2) (.t p32), none, 31⟩] false)
 (.seq (.region [⟨some p33, .loadN 3 (.t p1), none, 0⟩, ⟨some p34, .loadN 3 (.t p2), none, 0⟩, ⟨some p35, .buildSl [(.int .u8 (.ofNat 0)), (.int .i64 (.ofNat 0)), .nils, (.int .u8 (.ofNat 0)), (.int .i64 (.ofNat 0)), .nils] 2 [(0, 3, (.t p33)), (3, 3, (.t p34))], none, 3⟩, ⟨some p36, .build [(.int .u8 (.ofNat 0)), (.int .i64 (.ofNat 0)), .nils] [(0, 1, (.c (.int .u8 (.ofNat 4)))), (2, 1, (.t p35))], none, 7⟩, ⟨some p3, .alloc [(.int .u8 (.ofNat 0)), (.int .i64 (.ofNat 0)), .nils], none, 0⟩, ⟨none, .store 3 (.t p3) (.t p36), none, 31⟩] false)
 (.seq (.region [⟨some p37, .call (.c (.fn 56 [] [])) [], none, 0⟩, ⟨some p4, .alloc [(.int .i64 (.ofNat 0)), (.int .i64 (.ofNat 0)), (.int .i64 (.ofNat 0)), .nils, .nils], none, 0⟩, ⟨none, .store 5 (.t p4) (.t p37), none, 3⟩] false)
 (.seq (.region [⟨some p38, .faddr 1 (.t p4), none, 0⟩, ⟨none, .store 1 (.t p38) (.c (.int .i64 (.ofNat 300))), none, 1⟩] false)
 (.seq (.region [⟨some p39, .loadN 3 (.t p1), none, 0⟩, ⟨some p40, .build [(.int .u8 (.ofNat 0)), (.int .i64 (.ofNat 0)), (.int .u8 (.ofNat 0)), (.int .i64 (.ofNat 0)), .nils, (.int .u8 (.ofNat 0)), (.int .i64 (.ofNat 0)), .nils, .nils, .nils] [(0, 1, (.c (.int .u8 (.ofNat 8)))), (2, 3, (.t p39))], none, 1⟩, ⟨some p41, .buildSl [(.int .u8 (.ofNat 0)), (.int .i64 (.ofNat 0)), (.int .u8 (.ofNat 0)), (.int .i64 (.ofNat 0)), .nils, (.int .u8 (.ofNat 0)), (.int .i64 (.ofNat 0)), .nils, .nils, .nils] 1 [(0, 10, (.t p40))], none, 3⟩, ⟨some p42, .build [(.int .u8 (.ofNat 0)), (.int .i64 (.ofNat 0)), .nils] [(0, 1, (.c (.int .u8 (.ofNat 3))))], none, 0⟩, ⟨some p43, .build [(.int .u8 (.ofNat 0)), (.int .i64 (.ofNat 0)), (.int .u8 (.ofNat 0)), (.int .i64 (.ofNat 0)), .nils, (.int .u8 (.ofNat 0)), (.int .i64 (.ofNat 0)), .nils, .nils, .nils] [(0, 1, (.c (.int .u8 (.ofNat 1)))), (1, 1, (.c (.int .i64 (.ofNat 2)))), (2, 3, (.t p42))], none, 8⟩, ⟨some p44, .loadN 3 (.t p3), none, 0⟩, ⟨some p45, .build [(.int .u8 (.ofNat 0)), (.int .i64 (.ofNat 0)), (.int .u8 (.ofNat 0)), (.int .i64 (.ofNat 0)), .nils, (.int .u8 (.ofNat 0)), (.int .i64 (.ofNat 0)), .nils, .nils, .nils] [(0, 1, (.c (.int .u8 (.ofNat 2)))), (1, 1, (.c (.int .i64 (.ofNat 1)))), (2, 3, (.t p44))], none, 32⟩, ⟨some p46, .loadN 3 (.t p1), none, 0⟩, ⟨some p47, .loadN 3 (.t p2), none, 0⟩, ⟨some p48, .build [(.int .u8 (.ofNat 0)), (.int .i64 (.ofNat 0)), (.int .u8 (.ofNat 0)), (.int .i64 (.ofNat 0)), .nils, (.int .u8 (.ofNat 0)), (.int .i64 (.ofNat 0)), .nils, .nils, .nils] [(0, 1, (.c (.int .u8 (.ofNat 3)))), (2, 3, (.t p46)), (5, 3, (.t p47))], none, 384⟩, ⟨some p49, .loadN 3 (.t p2), none, 0⟩, ⟨some p50, .build [(.int .u8 (.ofNat 0)), (.int .i64 (.ofNat 0)), (.int .u8 (.ofNat 0)), (.int .i64 (.ofNat 0)), .nils, (.int .u8 (.ofNat 0)), (.int .i64 (.ofNat 0)), .nils, .nils, .nils] [(0, 1, (.c (.int .u8 (.ofNat 6))))], none, 0⟩, ⟨some p51, .buildSl [(.int .u8 (.ofNat 0)), (.int .i64 (.ofNat 0)), (.int .u8 (.ofNat 0)), (.int .i64 (.ofNat 0)), .nils, (.int .u8 (.ofNat 0)), (.int .i64 (.ofNat 0)), .nils, .nils, .nils] 1 [(0, 10, (.t p50))], none, 2048⟩, ⟨some p52, .build [(.int .u8 (.ofNat 0)), (.int .i64 (.ofNat 0)), (.int .u8 (.ofNat 0)), (.int .i64 (.ofNat 0)), .nils, (.int .u8 (.ofNat 0)), (.int .i64 (.ofNat 0)), .nils, .nils, .nils] [(0, 1, (.c (.int .u8 (.ofNat 6))))], none, 0⟩, ⟨some p53, .build [(.int .u8 (.ofNat 0)), (.int .i64 (.ofNat 0)), (.int .u8 (.ofNat 0)), (.int .i64 (.ofNat 0)), .nils, (.int .u8 (.ofNat 0)), (.int .i64 (.ofNat 0)), .nils, .nils, .nils] [(0, 1, (.c (.int .u8 (.ofNat 6))))], none, 0⟩, ⟨some p54, .buildSl [(.int .u8 (.ofNat 0)), (.int .i64 (.ofNat 0)), (.int .u8 (.ofNat 0)), (.int .i64 (.ofNat 0)), .nils, (.int .u8 (.ofNat 0)), (.int .i64 (.ofNat 0)), .nils, .nils, .nils, (.int .u8 (.ofNat 0)), (.int .i64 (.ofNat 0)), (.int .u8 (.ofNat 0)), (.int .i64 (.ofNat 0)), .nils, (.int .u8 (.ofNat 0)), (.int .i64 (.ofNat 0)), .nils, .nils, .nils] 2 [(0, 10, (.t p52)), (10, 10, (.t p53))], none, 24576⟩, ⟨some p55, .build [(.int .u8 (.ofNat 0)), (.int .i64 (.ofNat 0)), (.int .u8 (.ofNat 0)), (.int .i64 (.ofNat 0)), .nils, (.int .u8 (.ofNat 0)), (.int .i64 (.ofNat 0)), .nils, .nils, .nils] [(0, 1, (.c (.int .u8 (.ofNat 4)))), (2, 3, (.t p49)), (8, 1, (.t p51)), (9, 1, (.t p54))], none, 64512⟩, ⟨some p56, .loadN 3 (.t p1), none, 0⟩, ⟨some p57, .build [(.int .u8 (.ofNat 0)), (.int .i64 (.ofNat 0)), (.int .u8 (.ofNat 0)), (.int .i64 (.ofNat 0)), .nils, (.int .u8 (.ofNat 0)), (.int .i64 (.ofNat 0)), .nils, .nils, .nils] [(0, 1, (.c (.int .u8 (.ofNat 6))))], none, 0⟩, ⟨some p58, .buildSl [(.int .u8 (.ofNat 0)), (.int .i64 (.ofNat 0)), (.int .u8 (.ofNat 0)), (.int .i64 (.ofNat 0)), .nils, (.int .u8 (.ofNat 0)), (.int .i64 (.ofNat 0)), .nils, .nils, .nils] 1 [(0, 10, (.t p57))], none, 262144⟩, ⟨some p59, .build [(.int .u8 (.ofNat 0)), (.int .i64 (.ofNat 0)), (.int .u8 (.ofNat 0)), (.int .i64 (.ofNat 0)), .nils, (.int .u8 (.ofNat 0)), (.int .i64 (.ofNat 0)), .nils, .nils, .nils] [(0, 1, (.c (.int .u8 (.ofNat 5)))), (2, 3, (.t p56)), (8, 1, (.t p58))], none, 917504⟩, ⟨some p60, .build [(.int .u8 (.ofNat 0)), (.int .i64 (.ofNat 0)), (.int .u8 (.ofNat 0)), (.int .i64 (.ofNat 0)), .nils, (.int .u8 (.ofNat 0)), (.int .i64 (.ofNat 0)), .nils, .nils, .nils] [(0, 1, (.c (.int .u8 (.ofNat 6))))], none, 0⟩, ⟨some p61, .buildSl [(.int .u8 (.ofNat 0)), (.int .i64 (.ofNat 0)), (.int .u8 (.ofNat 0)), (.int .i64 (.ofNat 0)), .nils, (.int .u8 (.ofNat 0)), (.int .i64 (.ofNat 0)), .nils, .nils, .nils] 1 [(0, 10, (.t p60))], none, 2097152⟩, ⟨some p62, .build [(.int .u8 (.ofNat 0)), (.int .i64 (.ofNat 0)), (.int .u8 (.ofNat 0)), (.int .i64 (.ofNat 0)), .nils, (.int .u8 (.ofNat 0)), (.int .i64 (.ofNat 0)), .nils, .nils, .nils] [(0, 1, (.c (.int .u8 (.ofNat 7)))), (9, 1, (.t p61))], none, 6291456⟩, ⟨some p63, .buildSl [(.int .u8 (.ofNat 0)), (.int .i64 (.ofNat 0)), (.int .u8 (.ofNat 0)), (.int .i64 (.ofNat 0)), .nils, (.int .u8 (.ofNat 0)), (.int .i64 (.ofNat 0)), .nils, .nils, .nils, (.int .u8 (.ofNat 0)), (.int .i64 (.ofNat 0)), (.int .u8 (.ofNat 0)), (.int .i64 (.ofNat 0)), .nils, (.int .u8 (.ofNat 0)), (.int .i64 (.ofNat 0)), .nils, .nils, .nils, (.int .u8 (.ofNat 0)), (.int .i64 (.ofNat 0)), (.int .u8 (.ofNat 0)), (.int .i64 (.ofNat 0)), .nils, (.int .u8 (.ofNat 0)), (.int .i64 (.ofNat 0)), .nils, .nils, .nils, (.int .u8 (.ofNat 0)), (.int .i64 (.ofNat 0)), (.int .u8 (.ofNat 0)), (.int .i64 (.ofNat 0)), .nils, (.int .u8 (.ofNat 0)), (.int .i64 (.ofNat 0)), .nils, .nils, .nils, (.int .u8 (.ofNat 0)), (.int .i64 (.ofNat 0)), (.int .u8 (.ofNat 0)), (.int .i64 (.ofNat 0)), .nils, (.int .u8 (.ofNat 0)), (.int .i64 (.ofNat 0)), .nils, .nils, .nils, (.int .u8 (.ofNat 0)), (.int .i64 (.ofNat 0)), (.int .u8 (.ofNat 0)), (.int .i64 (.ofNat 0)), .nils, (.int .u8 (.ofNat 0)), (.int .i64 (.ofNat 0)), .nils, .nils, .nils] 6 [(0, 10, (.t p43)), (10, 10, (.t p45)), (20, 10, (.t p48)), (30, 10, (.t p55)), (40, 10, (.t p59)), (50, 10, (.t p62))], none, 16777208⟩, ⟨some p64, .buildSl [.nils, .nils] 2 [(0, 1, (.t p41)), (1, 1, (.t p63))], none, 33554431⟩, ⟨some p65, .buildSl [.nils, .nils] 2 [(0, 1, (.c .nils)), (1, 1, (.t p64))], none, 67108863⟩, ⟨some p66, .faddr 4 (.t p4), none, 134217727⟩, ⟨none, .store 1 (.t p66) (.t p65), none, 268435455⟩] false)
 (.seq (.region [⟨some p68, .loadN 5 (.t p4), none, 0⟩, ⟨some p69, .call (.c (.fn 57 [] [])) [(.t p68)], none, 1⟩, ⟨some p67, .mov (.t p69), none, 3⟩, ⟨some p70, .ext 0 (.t p67), none, 7⟩, ⟨some p71, .ext 1 (.t p67), none, 7⟩, ⟨some p5, .mov (.t p70), none, 15⟩, ⟨some p6, .mov (.t p71), none, 63⟩] false)
 (.seq (.region [⟨some p7, .mov (.c (.str [1, 10, 1, 172, 2, 1, 2, 0, 2, 1, 8, 1, 5, 6, 1, 2, 3, 0, 2, 1, 4, 1, 5, 2, 7, 3, 1, 5, 2, 7, 4, 2, 7, 1, 6, 2, 6, 6, 5, 1, 5, 1, 6, 7, 0, 1, 6])), none, 0⟩] false)
 (.seq (.seq (.region [⟨some p72, .mov (.t p6), none, 0⟩, ⟨some p73, .bin .neq (.t p72) (.c (.int .i64 (.ofNat 0))), none, 1⟩, ⟨some p74, .mov (.t p73), none, 3⟩, ⟨some p75, .mov (.t p5), some (p74, false), 7⟩, ⟨some p76, .mov (.t p7), some (p74, false), 7⟩, ⟨some p77, .call (.c (.fn 58 [] [])) [(.t p76)], some (p74, false), 23⟩, ⟨some p78, .bin .neq (.t p75) (.t p77), some (p74, false), 63⟩, ⟨some p79, .pick (.t p74) (.c (.bool true)) (.t p78), none, 127⟩, ⟨some p80, .mov (.t p79), none, 255⟩, ⟨some p81, .loadN 5 (.t p4), some (p80, false), 511⟩, ⟨some p82, .call (.c (.fn 59 [] [])) [(.t p81)], some (p80, false), 1023⟩, ⟨some p83, .un .not (.t p82), some (p80, false), 2047⟩, ⟨some p84, .pick (.t p80) (.c (.bool true)) (.t p83), none, 4095⟩] false)
 (.cond (.t p84) (.seq (.region [⟨some p0, .mov (.c (.bool false)), none, 0⟩] false)
 .ret) .skip))
 (.seq (.region [⟨some p85, .call (.c (.fn 56 [] [])) [], none, 0⟩, ⟨some p8, .alloc [(.int .i64 (.ofNat 0)), (.int .i64 (.ofNat 0)), (.int .i64 (.ofNat 0)), .nils, .nils], none, 0⟩, ⟨none, .store 5 (.t p8) (.t p85), none, 3⟩] false)
 (.seq (.region [⟨some p86, .faddr 0 (.t p8), none, 0⟩, ⟨none, .store 1 (.t p86) (.c (.int .i64 (.ofNat 2))), none, 1⟩] false)
 (.seq (.region [⟨some p88, .loadN 5 (.t p8), none, 0⟩, ⟨some p89, .call (.c (.fn 57 [] [])) [(.t p88)], none, 1⟩, ⟨some p87, .mov (.t p89), none, 3⟩, ⟨some p90, .ext 0 (.t p87), none, 7⟩, ⟨some p91, .ext 1 (.t p87), none, 7⟩, ⟨some p9, .mov (.t p90), none, 15⟩, ⟨some p10, .mov (.t p91), none, 63⟩] false)
 (.seq (.region [⟨some p11, .mov (.c (.str [1, 10, 1, 0, 1])), none, 0⟩] false)
 (.seq (.region [⟨some p92, .mov (.t p11), none, 0⟩, ⟨some p93, .bin .add (.t p92) (.c (.str [1, 1, 1])), none, 1⟩, ⟨some p12, .mov (.t p93), none, 3⟩] false)
 (.seq (.seq (.region [⟨some p94, .mov (.t p10), none, 0⟩, ⟨some p95, .bin .neq (.t p94) (.c (.int .i64 (.ofNat 4))), none, 1⟩, ⟨some p96, .mov (.t p95), none, 3⟩, ⟨some p97, .call (.c (.fn 60 [] [])) [(.c (.str [])), (.c (.int .i64 (.ofNat 0))), (.c (.int .i64 (.ofNat 8)))], some (p96, false), 7⟩, ⟨some p98, .un .not (.t p97), some (p96, false), 15⟩, ⟨some p99, .pick (.t p96) (.c (.bool true)) (.t p98), none, 31⟩, ⟨some p100, .mov (.t p99), none, 63⟩, ⟨some p101, .call (.c (.fn 60 [] [])) [(.c (.str [0])), (.c (.int .i64 (.ofNat 0))), (.c (.int .i64 (.ofNat 20)))], some (p100, false), 127⟩, ⟨some p102, .un .not (.t p101), some (p100, false), 255⟩, ⟨some p103, .pick (.t p100) (.c (.bool true)) (.t p102), none, 511⟩, ⟨some p104, .mov (.t p103), none, 1023⟩, ⟨some p105, .call (.c (.fn 60 [] [])) [(.c (.str [33])), (.c (.int .i64 (.ofNat 0))), (.c (.int .i64 (.ofNat 20)))], some (p104, false), 2047⟩, ⟨some p106, .un .not (.t p105), some (p104, false), 4095⟩, ⟨some p107, .pick (.t p104) (.c (.bool true)) (.t p106), none, 8191⟩, ⟨some p108, .mov (.t p107), none, 16383⟩, ⟨some p109, .call (.c (.fn 60 [] [])) [(.c (.str [1, 10, 2])), (.c (.int .i64 (.ofNat 2))), (.c (.int .i64 (.ofNat 20)))], some (p108, false), 32767⟩, ⟨some p110, .un .not (.t p109), some (p108, false), 65535⟩, ⟨some p111, .pick (.t p108) (.c (.bool true)) (.t p110), none, 131071⟩, ⟨some p112, .mov (.t p111), none, 262143⟩, ⟨some p113, .call (.c (.fn 60 [] [])) [(.c (.str [1, 10, 0])), (.c (.int .i64 (.ofNat 2))), (.c (.int .i64 (.ofNat 20)))], some (p112, false), 524287⟩, ⟨some p114, .un .not (.t p113), some (p112, false), 1048575⟩, ⟨some p115, .pick (.t p112) (.c (.bool true)) (.t p114), none, 2097151⟩, ⟨some p116, .mov (.t p115), none, 4194303⟩, ⟨some p117, .call (.c (.fn 60 [] [])) [(.c (.str [1, 10, 1, 0, 0])), (.c (.int .i64 (.ofNat 4))), (.c (.int .i64 (.ofNat 20)))], some (p116, false), 8388607⟩, ⟨some p118, .un .not (.t p117), some (p116, false), 16777215⟩, ⟨some p119, .pick (.t p116) (.c (.bool true)) (.t p118), none, 33554431⟩, ⟨some p120, .mov (.t p119), none, 67108863⟩, ⟨some p121, .call (.c (.fn 60 [] [])) [(.c (.str [1, 10, 1, 0, 233, 7])), (.c (.int .i64 (.ofNat 4))), (.c (.int .i64 (.ofNat 20)))], some (p120, false), 134217727⟩, ⟨some p122, .un .not (.t p121), some (p120, false), 268435455⟩, ⟨some p123, .pick (.t p120) (.c (.bool true)) (.t p122), none, 536870911⟩, ⟨some p124, .mov (.t p123), none, 1073741823⟩, ⟨some p125, .mov (.t p11), some (p124, false), 2147483647⟩, ⟨some p126, .bin .add (.t p125) (.c (.str [7])), some (p124, false), 4294967295⟩, ⟨some p127, .call (.c (.fn 60 [] [])) [(.t p126), (.c (.int .i64 (.ofNat 5))), (.c (.int .i64 (.ofNat 20)))], some (p124, false), 8589934591⟩, ⟨some p128, .un .not (.t p127), some (p124, false), 17179869183⟩, ⟨some p129, .pick (.t p124) (.c (.bool true)) (.t p128), none, 34359738367⟩, ⟨some p130, .mov (.t p129), none, 68719476735⟩, ⟨some p131, .mov (.t p11), some (p130, false), 137438953471⟩, ⟨some p132, .call (.c (.fn 60 [] [])) [(.t p131), (.c (.int .i64 (.ofNat 5))), (.c (.int .i64 (.ofNat 8)))], some (p130, false), 274877906943⟩, ⟨some p133, .un .not (.t p132), some (p130, false), 549755813887⟩, ⟨some p134, .pick (.t p130) (.c (.bool true)) (.t p133), none, 1099511627775⟩, ⟨some p135, .mov (.t p134), none, 2199023255551⟩, ⟨some p136, .mov (.t p11), some (p135, false), 4398046511103⟩, ⟨some p137, .bin .add (.t p136) (.c (.str [0, 0])), some (p135, false), 8796093022207⟩, ⟨some p138, .call (.c (.fn 60 [] [])) [(.t p137), (.c (.int .i64 (.ofNat 6))), (.c (.int .i64 (.ofNat 10)))], some (p135, false), 17592186044415⟩, ⟨some p139, .un .not (.t p138), some (p135, false), 35184372088831⟩, ⟨some p140, .pick (.t p135) (.c (.bool true)) (.t p139), none, 70368744177663⟩, ⟨some p141, .mov (.t p140), none, 140737488355327⟩, ⟨some p142, .mov (.t p11), some (p141, false), 281474976710655⟩, ⟨some p143, .bin .add (.t p142) (.c (.str [128, 0])), some (p141, false), 562949953421311⟩, ⟨some p144, .call (.c (.fn 60 [] [])) [(.t p143), (.c (.int .i64 (.ofNat 5))), (.c (.int .i64 (.ofNat 11)))], some (p141, false), 1125899906842623⟩, ⟨some p145, .un .not (.t p144), some (p141, false), 2251799813685247⟩, ⟨some p146, .pick (.t p141) (.c (.bool true)) (.t p145), none, 4503599627370495⟩] false)
 (.cond (.t p146) (.seq (.region [⟨some p0, .mov (.c (.bool false)), none, 0⟩] false)
 .ret) .skip))
 (.seq (.seq (.region [⟨some p147, .mov (.t p12), none, 0⟩, ⟨some p148, .bin .add (.t p147) (.c (.str [0])), none, 1⟩, ⟨some p149, .call (.c (.fn 60 [] [])) [(.t p148), (.c (.int .i64 (.ofNat 8))), (.c (.int .i64 (.ofNat 20)))], none, 3⟩, ⟨some p150, .un .not (.t p149), none, 7⟩, ⟨some p151, .mov (.t p150), none, 15⟩, ⟨some p152, .mov (.t p12), some (p151, false), 31⟩, ⟨some p153, .bin .add (.t p152) (.c (.str [9])), some (p151, false), 63⟩, ⟨some p154, .call (.c (.fn 60 [] [])) [(.t p153), (.c (.int .i64 (.ofNat 8))), (.c (.int .i64 (.ofNat 20)))], some (p151, false), 127⟩, ⟨some p155, .un .not (.t p154), some (p151, false), 255⟩, ⟨some p156, .pick (.t p151) (.c (.bool true)) (.t p155), none, 511⟩, ⟨some p157, .mov (.t p156), none, 1023⟩, ⟨some p158, .mov (.t p12), some (p157, false), 2047⟩, ⟨some p159, .bin .add (.t p158) (.c (.str [1, 8])), some (p157, false), 4095⟩, ⟨some p160, .call (.c (.fn 60 [] [])) [(.t p159), (.c (.int .i64 (.ofNat 9))), (.c (.int .i64 (.ofNat 20)))], some (p157, false), 8191⟩, ⟨some p161, .un .not (.t p160), some (p157, false), 16383⟩, ⟨some p162, .pick (.t p157) (.c (.bool true)) (.t p161), none, 32767⟩, ⟨some p163, .mov (.t p162), none, 65535⟩, ⟨some p164, .mov (.t p12), some (p163, false), 131071⟩, ⟨some p165, .bin .add (.t p164) (.c (.str [8, 0])), some (p163, false), 262143⟩, ⟨some p166, .call (.c (.fn 60 [] [])) [(.t p165), (.c (.int .i64 (.ofNat 9))), (.c (.int .i64 (.ofNat 20)))], some (p163, false), 524287⟩, ⟨some p167, .un .not (.t p166), some (p163, false), 1048575⟩, ⟨some p168, .pick (.t p163) (.c (.bool true)) (.t p167), none, 2097151⟩, ⟨some p169, .mov (.t p168), none, 4194303⟩, ⟨some p170, .mov (.t p12), some (p169, false), 8388607⟩, ⟨some p171, .bin .add (.t p170) (.c (.str [8, 9])), some (p169, false), 16777215⟩, ⟨some p172, .call (.c (.fn 60 [] [])) [(.t p171), (.c (.int .i64 (.ofNat 9))), (.c (.int .i64 (.ofNat 20)))], some (p169, false), 33554431⟩, ⟨some p173, .un .not (.t p172), some (p169, false), 67108863⟩, ⟨some p174, .pick (.t p169) (.c (.bool true)) (.t p173), none, 134217727⟩, ⟨some p175, .mov (.t p174), none, 268435455⟩, ⟨some p176, .mov (.t p12), some (p175, false), 536870911⟩, ⟨some p177, .bin .add (.t p176) (.c (.str [8, 2, 8])), some (p175, false), 1073741823⟩, ⟨some p178, .call (.c (.fn 60 [] [])) [(.t p177), (.c (.int .i64 (.ofNat 10))), (.c (.int .i64 (.ofNat 20)))], some (p175, false), 2147483647⟩, ⟨some p179, .un .not (.t p178), some (p175, false), 4294967295⟩, ⟨some p180, .pick (.t p175) (.c (.bool true)) (.t p179), none, 8589934591⟩, ⟨some p181, .mov (.t p180), none, 17179869183⟩, ⟨some p182, .mov (.t p12), some (p181, false), 34359738367⟩, ⟨some p183, .bin .add (.t p182) (.c (.str [8, 3, 6])), some (p181, false), 68719476735⟩, ⟨some p184, .call (.c (.fn 60 [] [])) [(.t p183), (.c (.int .i64 (.ofNat 10))), (.c (.int .i64 (.ofNat 20)))], some (p181, false), 137438953471⟩, ⟨some p185, .un .not (.t p184), some (p181, false), 274877906943⟩, ⟨some p186, .pick (.t p181) (.c (.bool true)) (.t p185), none, 549755813887⟩, ⟨some p187, .mov (.t p186), none, 1099511627775⟩, ⟨some p188, .mov (.t p12), some (p187, false), 2199023255551⟩, ⟨some p189, .bin .add (.t p188) (.c (.str [8, 3, 0])), some (p187, false), 4398046511103⟩, ⟨some p190, .call (.c (.fn 60 [] [])) [(.t p189), (.c (.int .i64 (.ofNat 11))), (.c (.int .i64 (.ofNat 4)))], some (p187, false), 8796093022207⟩, ⟨some p191, .un .not (.t p190), some (p187, false), 17592186044415⟩, ⟨some p192, .pick (.t p187) (.c (.bool true)) (.t p191), none, 35184372088831⟩, ⟨some p193, .mov (.t p192), none, 70368744177663⟩, ⟨some p194, .mov (.t p12), some (p193, false), 140737488355327⟩, ⟨some p195, .bin .add (.t p194) (.c (.str [8, 4, 1, 0])), some (p193, false), 281474976710655⟩, ⟨some p196, .call (.c (.fn 60 [] [])) [(.t p195), (.c (.int .i64 (.ofNat 12))), (.c (.int .i64 (.ofNat 8)))], some (p193, false), 562949953421311⟩, ⟨some p197, .un .not (.t p196), some (p193, false), 1125899906842623⟩, ⟨some p198, .pick (.t p193) (.c (.bool true)) (.t p197), none, 2251799813685247⟩, ⟨some p199, .mov (.t p198), none, 4503599627370495⟩, ⟨some p200, .mov (.t p11), some (p199, false), 9007199254740991⟩, ⟨some p201, .bin .add (.t p200) (.c (.str [1, 1, 41])), some (p199, false), 18014398509481983⟩, ⟨some p202, .call (.c (.fn 60 [] [])) [(.t p201), (.c (.int .i64 (.ofNat 7))), (.c (.int .i64 (.ofNat 20)))], some (p199, false), 36028797018963967⟩, ⟨some p203, .un .not (.t p202), some (p199, false), 72057594037927935⟩, ⟨some p204, .pick (.t p199) (.c (.bool true)) (.t p203), none, 144115188075855871⟩] false)
 (.cond (.t p204) (.seq (.region [⟨some p0, .mov (.c (.bool false)), none, 0⟩] false)
 .ret) .skip))
 (.seq (.region [⟨some p205, .mov (.t p12), none, 0⟩, ⟨some p206, .mov (.t p12), none, 0⟩, ⟨some p207, .bin .add (.t p206) (.c (.str [8])), none, 2⟩, ⟨some p13, .mov (.t p205), none, 1⟩, ⟨some p14, .mov (.t p207), none, 15⟩] false)
 (.seq (.seq (.region [⟨some p15, .mov (.c (.int .i64 (.ofNat 0))), none, 0⟩] false)
 (.block 0 (.loop (.seq (.seq (.region [⟨some p208, .mov (.t p15), none, 0⟩, ⟨some p209, .bin .lss (.t p208) (.c (.int .i64 (.ofNat 6))), none, 1⟩] false)
 (.cond (.t p209) .skip (.exit 0)))
 (.seq (.block 1 (.seq (.region [⟨some p212, .mov (.t p13), none, 0⟩, ⟨some p213, .bin .add (.t p212) (.c (.str [7, 1])), none, 1⟩, ⟨some p13, .mov (.t p213), none, 3⟩] false)
 (.region [⟨some p214, .mov (.t p14), none, 0⟩, ⟨some p215, .bin .add (.t p214) (.c (.str [4])), none, 1⟩, ⟨some p14, .mov (.t p215), none, 3⟩] false)))
 (.region [⟨some p210, .mov (.t p15), none, 0⟩, ⟨some p211, .bin .add (.t p210) (.c (.int .i64 (.ofNat 1))), none, 1⟩, ⟨some p15, .mov (.t p211), none, 3⟩] false))))))
 (.seq (.region [⟨some p216, .mov (.t p13), none, 0⟩, ⟨some p217, .len true (.t p216), none, 1⟩, ⟨some p218, .bin .sub (.t p217) (.c (.int .i64 (.ofNat 1))), none, 3⟩, ⟨some p219, .mov (.t p14), none, 0⟩, ⟨some p220, .len true (.t p219), none, 8⟩, ⟨some p16, .mov (.t p218), none, 7⟩, ⟨some p17, .mov (.t p220), none, 63⟩] false)
 (.seq (.region [⟨some p222, .call (.c (.fn 61 [] [])) [(.c (.str []))], none, 0⟩, ⟨some p221, .mov (.t p222), none, 1⟩, ⟨some p223, .ext 0 (.t p221), none, 3⟩, ⟨some p224, .ext 1 (.t p221), none, 3⟩, ⟨some p225, .ext 2 (.t p221), none, 3⟩, ⟨some p18, .alloc [(.int .i64 (.ofNat 0)), (.int .i64 (.ofNat 0)), (.int .i64 (.ofNat 0)), .nils, .nils], none, 0⟩, ⟨none, .store 5 (.t p18) (.t p223), none, 39⟩, ⟨some p19, .mov (.t p224), none, 111⟩, ⟨some p20, .mov (.t p225), none, 255⟩] false)
 (.seq (.region [⟨some p226, .mov (.t p13), none, 0⟩, ⟨some p227, .bin .add (.t p226) (.c (.str [6])), none, 1⟩, ⟨some p228, .mov (.t p16), none, 0⟩, ⟨some p229, .call (.c (.fn 60 [] [])) [(.t p227), (.t p228), (.c (.int .i64 (.ofNat 40)))], none, 7⟩, ⟨some p230, .mov (.t p229), none, 15⟩, ⟨some p231, .mov (.t p14), some (p230, true), 31⟩, ⟨some p232, .bin .add (.t p231) (.c (.str [1, 0])), some (p230, true), 63⟩, ⟨some p233, .mov (.t p17), some (p230, true), 31⟩, ⟨some p234, .call (.c (.fn 60 [] [])) [(.t p232), (.t p233), (.c (.int .i64 (.ofNat 40)))], some (p230, true), 255⟩, ⟨some p235, .pick (.t p230) (.t p234) (.c (.bool false)), none, 511⟩, ⟨some p236, .mov (.t p235), none, 1023⟩, ⟨some p237, .mov (.t p19), some (p236, true), 2047⟩, ⟨some p238, .bin .eql (.t p237) (.c (.int .i64 (.ofNat 0))), some (p236, true), 4095⟩, ⟨some p239, .pick (.t p236) (.t p238) (.c (.bool false)), none, 8191⟩, ⟨some p240, .mov (.t p239), none, 16383⟩, ⟨some p241, .mov (.t p20), some (p240, true), 32767⟩, ⟨some p242, .bin .eql (.t p241) (.c (.int .i64 (.ofNat 8))), some (p240, true), 65535⟩, ⟨some p243, .pick (.t p240) (.t p242) (.c (.bool false)), none, 131071⟩, ⟨some p0, .mov (.t p243), none, 262143⟩] false)
 .ret)))))))))))))))))))))) }
theorem ok16 : cFn Try.prog 16 = some ef16 := by kernel_rfl
/-- code.May -/
def ef37 : EFn := { id := 37, N := 42, res := [(p4, some none)], code := (.seq (.region [⟨some p3, .box (.t p1), none, 0⟩, ⟨some p4, .alloc [(.bool false)], none, 0⟩] false)
 (.seq (.seq (.region [⟨some p8, .load1 (.t p3), none, 0⟩, ⟨some p9, .bin .lss (.t p8) (.c (.int .i64 (.ofNat 0))), none, 1⟩, ⟨some p10, .mov (.t p9), none, 3⟩, ⟨some p11, .load1 (.t p3), some (p10, false), 7⟩, ⟨some p12, .bin .geq (.t p11) (.c (.int .i64 (.ofNat 6))), some (p10, false), 15⟩, ⟨some p13, .pick (.t p10) (.c (.bool true)) (.t p12), none, 31⟩, ⟨some p14, .mov (.t p13), none, 63⟩, ⟨some p15, .mov (.t p0), some (p14, false), 127⟩, ⟨some p16, .call (.c (.fn 43 [] [])) [(.t p15)], some (p14, false), 255⟩, ⟨some p17, .bin .gtr (.t p16) (.c (.int .i64 (.ofNat 6))), some (p14, false), 511⟩, ⟨some p18, .pick (.t p14) (.c (.bool true)) (.t p17), none, 1023⟩, ⟨some p19, .mov (.t p18), none, 2047⟩, ⟨some p20, .mov (.t p0), some (p19, false), 4095⟩, ⟨some p21, .call (.c (.fn 42 [] [])) [(.t p20)], some (p19, false), 8191⟩, ⟨some p22, .bin .gtr (.t p21) (.c (.int .i64 (.ofNat 2000))), some (p19, false), 16383⟩, ⟨some p23, .pick (.t p19) (.c (.bool true)) (.t p22), none, 32767⟩] false)
 (.cond (.t p23) (.seq (.region [⟨none, .store 1 (.t p4) (.c (.bool false)), none, 0⟩] false)
 .ret) .skip))
 (.seq (.region [⟨some p25, .mov (.t p0), none, 0⟩, ⟨some p26, .call (.c (.fn 70 [] [])) [(.t p25)], none, 1⟩, ⟨some p24, .mov (.t p26), none, 3⟩, ⟨some p27, .ext 0 (.t p24), none, 7⟩, ⟨some p28, .ext 1 (.t p24), none, 7⟩, ⟨some p5, .mov (.t p27), none, 15⟩, ⟨some p6, .mov (.t p28), none, 63⟩] false)
 (.seq (.seq (.region [⟨some p29, .mov (.t p0), none, 0⟩, ⟨some p30, .call (.c (.fn 72 [] [])) [(.t p29)], none, 1⟩] false)
 (.block 0 (.rangeF (.t p30) [p31] (.region [⟨some p7, .alloc [(.int .u8 (.ofNat 0)), (.int .i64 (.ofNat 0)), (.int .u8 (.ofNat 0)), (.int .i64 (.ofNat 0)), .nils, (.int .u8 (.ofNat 0)), (.int .i64 (.ofNat 0)), .nils, .nils, .nils], none, 0⟩, ⟨none, .store 10 (.t p7) (.t p31), none, 1⟩] false) (.block 1 (.seq (.region [⟨some p32, .loadN 10 (.t p7), none, 0⟩, ⟨some p33, .load1 (.t p3), none, 0⟩, ⟨some p34, .call (.c (.fn 73 [] [])) [(.t p32), (.t p33)], none, 3⟩, ⟨some p35, .un .not (.t p34), none, 7⟩] false)
 (.cond (.t p35) (.seq (.region [⟨none, .store 1 (.t p4) (.c (.bool false)), none, 0⟩] false)
 .ret) .skip))))))
 (.seq (.region [⟨some p36, .mov (.t p5), none, 0⟩, ⟨some p37, .bin .leq (.t p36) (.c (.int .i64 (.ofNat 40))), none, 1⟩, ⟨some p38, .mov (.t p37), none, 3⟩, ⟨some p39, .mov (.t p6), some (p38, true), 7⟩, ⟨some p40, .bin .leq (.t p39) (.c (.int .i64 (.ofNat 300))), some (p38, true), 15⟩, ⟨some p41, .pick (.t p38) (.t p40) (.c (.bool false)), none, 31⟩, ⟨none, .store 1 (.t p4) (.t p41), none, 63⟩] false)
 .ret))))) }
theorem ok37 : cFn Try.prog 37 = some ef37 := by kernel_rfl
/-- code.Cost -/
def ef42 : EFn := { id := 42, N := 46, res := [(p2, none)], code := (.seq (.region [⟨some p2, .mov (.c (.int .i64 (.ofNat 0))), none, 0⟩] false)
 (.seq (.region [⟨some p3, .mov (.c (.int .i64 (.ofNat 0))), none, 0⟩] false)
 (.seq (.seq (.region [⟨some p7, .mov (.t p0), none, 0⟩, ⟨some p8, .len false (.t p7), none, 1⟩, ⟨some p9, .mov (.c (.int .i64 (.ofNat 0))), none, 0⟩] false)
 (.block 0 (.loop (.seq (.region [⟨some p10, .bin .lss (.t p9) (.t p8), none, 0⟩] false)
 (.seq (.cond (.t p10) .skip (.exit 0))
 (.seq (.block 1 (.seq (.region [⟨some p11, .iaddrS 10 (.t p7) (.t p9), none, 0⟩, ⟨some p12, .loadN 10 (.t p11), none, 1⟩, ⟨some p5, .alloc [(.int .u8 (.ofNat 0)), (.int .i64 (.ofNat 0)), (.int .u8 (.ofNat 0)), (.int .i64 (.ofNat 0)), .nils, (.int .u8 (.ofNat 0)), (.int .i64 (.ofNat 0)), .nils, .nils, .nils], none, 0⟩, ⟨none, .store 10 (.t p5) (.t p12), none, 7⟩] false)
 (.seq (.region [⟨some p6, .mov (.c (.int .i64 (.ofNat 0))), none, 0⟩] false)
 (.seq (.seq (.region [⟨some p13, .faddr 0 (.t p5), none, 0⟩, ⟨some p14, .load1 (.t p13), none, 1⟩] false)
 (.block 2 (.seq (.region [⟨some p16, .bin .eql (.t p14) (.c (.int .u8 (.ofNat 4))), none, 0⟩, ⟨some p15, .mov (.t p16), none, 1⟩] false)
 (.cond (.t p15) (.region [⟨some p17, .faddr 8 (.t p5), none, 0⟩, ⟨some p18, .load1 (.t p17), none, 1⟩, ⟨some p19, .call (.c (.fn 42 [] [])) [(.t p18)], none, 3⟩, ⟨some p20, .faddr 9 (.t p5), none, 0⟩, ⟨some p21, .load1 (.t p20), none, 8⟩, ⟨some p22, .call (.c (.fn 42 [] [])) [(.t p21)], none, 31⟩, ⟨some p23, .max (.t p19) (.t p22), none, 63⟩, ⟨some p6, .mov (.t p23), none, 127⟩] true) (.seq (.region [⟨some p25, .bin .eql (.t p14) (.c (.int .u8 (.ofNat 5))), none, 0⟩, ⟨some p24, .mov (.t p25), none, 1⟩] false)
 (.cond (.t p24) (.region [⟨some p26, .faddr 8 (.t p5), none, 0⟩, ⟨some p27, .load1 (.t p26), none, 1⟩, ⟨some p28, .call (.c (.fn 42 [] [])) [(.t p27)], none, 3⟩, ⟨some p29, .bin .mul (.c (.int .i64 (.ofNat 8))) (.t p28), none, 7⟩, ⟨some p6, .mov (.t p29), none, 15⟩] false) (.seq (.region [⟨some p31, .bin .eql (.t p14) (.c (.int .u8 (.ofNat 7))), none, 0⟩, ⟨some p30, .mov (.t p31), none, 1⟩] false)
 (.cond (.t p30) (.region [⟨some p32, .faddr 8 (.t p5), none, 0⟩, ⟨some p33, .load1 (.t p32), none, 1⟩, ⟨some p34, .call (.c (.fn 42 [] [])) [(.t p33)], none, 3⟩, ⟨some p35, .faddr 9 (.t p5), none, 0⟩, ⟨some p36, .load1 (.t p35), none, 8⟩, ⟨some p37, .call (.c (.fn 42 [] [])) [(.t p36)], none, 31⟩, ⟨some p38, .bin .add (.t p34) (.t p37), none, 63⟩, ⟨some p6, .mov (.t p38), none, 127⟩] true) .skip))))))))
 (.region [⟨some p39, .mov (.t p3), none, 0⟩, ⟨some p40, .bin .add (.t p39) (.c (.int .i64 (.ofNat 1))), none, 1⟩, ⟨some p41, .mov (.t p6), none, 0⟩, ⟨some p42, .bin .add (.t p40) (.t p41), none, 7⟩, ⟨some p43, .min (.t p42) (.c (.int .i64 (.ofNat 2001))), none, 15⟩, ⟨some p3, .mov (.t p43), none, 31⟩] false)))))
 (.region [⟨some p44, .bin .add (.t p9) (.c (.int .i64 (.ofNat 1))), none, 0⟩, ⟨some p9, .mov (.t p44), none, 1⟩] false)))))))
 (.seq (.region [⟨some p45, .mov (.t p3), none, 0⟩, ⟨some p2, .mov (.t p45), none, 1⟩] false)
 .ret)))) }
theorem ok42 : cFn Try.prog 42 = some ef42 := by kernel_rfl
/-- code.Depth -/
def ef43 : EFn := { id := 43, N := 33, res := [(p2, none)], code := (.seq (.region [⟨some p2, .mov (.c (.int .i64 (.ofNat 0))), none, 0⟩] false)
 (.seq (.region [⟨some p3, .mov (.c (.int .i64 (.ofNat 0))), none, 0⟩] false)
 (.seq (.seq (.region [⟨some p6, .mov (.t p0), none, 0⟩, ⟨some p7, .len false (.t p6), none, 1⟩, ⟨some p8, .mov (.c (.int .i64 (.ofNat 0))), none, 0⟩] false)
 (.block 0 (.loop (.seq (.region [⟨some p9, .bin .lss (.t p8) (.t p7), none, 0⟩] false)
 (.seq (.cond (.t p9) .skip (.exit 0))
 (.seq (.block 1 (.seq (.region [⟨some p10, .iaddrS 10 (.t p6) (.t p8), none, 0⟩, ⟨some p11, .loadN 10 (.t p10), none, 1⟩, ⟨some p5, .alloc [(.int .u8 (.ofNat 0)), (.int .i64 (.ofNat 0)), (.int .u8 (.ofNat 0)), (.int .i64 (.ofNat 0)), .nils, (.int .u8 (.ofNat 0)), (.int .i64 (.ofNat 0)), .nils, .nils, .nils], none, 0⟩, ⟨none, .store 10 (.t p5) (.t p11), none, 7⟩] false)
 (.seq (.seq (.region [⟨some p12, .faddr 8 (.t p5), none, 0⟩, ⟨some p13, .load1 (.t p12), none, 1⟩, ⟨some p14, .len false (.t p13), none, 3⟩, ⟨some p15, .bin .gtr (.t p14) (.c (.int .i64 (.ofNat 0))), none, 7⟩] false)
 (.cond (.t p15) (.region [⟨some p16, .mov (.t p3), none, 0⟩, ⟨some p17, .faddr 8 (.t p5), none, 0⟩, ⟨some p18, .load1 (.t p17), none, 2⟩, ⟨some p19, .call (.c (.fn 43 [] [])) [(.t p18)], none, 6⟩, ⟨some p20, .max (.t p16) (.t p19), none, 15⟩, ⟨some p3, .mov (.t p20), none, 31⟩] false) .skip))
 (.seq (.region [⟨some p21, .faddr 9 (.t p5), none, 0⟩, ⟨some p22, .load1 (.t p21), none, 1⟩, ⟨some p23, .len false (.t p22), none, 3⟩, ⟨some p24, .bin .gtr (.t p23) (.c (.int .i64 (.ofNat 0))), none, 7⟩] false)
 (.cond (.t p24) (.region [⟨some p25, .mov (.t p3), none, 0⟩, ⟨some p26, .faddr 9 (.t p5), none, 0⟩, ⟨some p27, .load1 (.t p26), none, 2⟩, ⟨some p28, .call (.c (.fn 43 [] [])) [(.t p27)], none, 6⟩, ⟨some p29, .max (.t p25) (.t p28), none, 15⟩, ⟨some p3, .mov (.t p29), none, 31⟩] false) .skip)))))
 (.region [⟨some p30, .bin .add (.t p8) (.c (.int .i64 (.ofNat 1))), none, 0⟩, ⟨some p8, .mov (.t p30), none, 1⟩] false)))))))
 (.seq (.region [⟨some p31, .mov (.t p3), none, 0⟩, ⟨some p32, .bin .add (.t p31) (.c (.int .i64 (.ofNat 1))), none, 1⟩, ⟨some p2, .mov (.t p32), none, 3⟩] false)
 .ret)))) }
theorem ok43 : cFn Try.prog 43 = some ef43 := by kernel_rfl
/-- setup.Check -/
def ef46 : EFn := { id := 46, N := 67, res := [(p2, none)], code := (.seq (.region [⟨some p1, .box (.t p0), none, 0⟩, ⟨some p2, .mov (.c (.int .i64 (.ofNat 0))), none, 0⟩] false)
 (.seq (.region [⟨some p9, .faddr 3 (.t p1), none, 0⟩, ⟨some p10, .load1 (.t p9), none, 1⟩, ⟨some p11, .len false (.t p10), none, 3⟩, ⟨some p3, .mov (.t p11), none, 7⟩] false)
 (.seq (.region [⟨some p4, .mov (.c (.fn 77 [] [])), none, 0⟩] false)
 (.seq (.seq (.region [⟨some p12, .mov (.t p4), none, 0⟩, ⟨some p13, .mov (.t p3), none, 0⟩, ⟨some p14, .call (.t p12) [(.t p13), (.c (.int .i64 (.ofNat 1))), (.c (.int .i64 (.ofNat 32)))], none, 3⟩, ⟨some p15, .un .not (.t p14), none, 7⟩, ⟨some p16, .mov (.t p15), none, 15⟩, ⟨some p17, .mov (.t p4), some (p16, false), 31⟩, ⟨some p18, .faddr 0 (.t p1), some (p16, false), 31⟩, ⟨some p19, .load1 (.t p18), some (p16, false), 95⟩, ⟨some p20, .mov (.t p3), some (p16, false), 31⟩, ⟨some p21, .call (.t p17) [(.t p19), (.c (.int .i64 (.ofNat 1))), (.t p20)], some (p16, false), 511⟩, ⟨some p22, .un .not (.t p21), some (p16, false), 1023⟩, ⟨some p23, .pick (.t p16) (.c (.bool true)) (.t p22), none, 2047⟩, ⟨some p24, .mov (.t p23), none, 4095⟩, ⟨some p25, .mov (.t p4), some (p24, false), 8191⟩, ⟨some p26, .faddr 1 (.t p1), some (p24, false), 8191⟩, ⟨some p27, .load1 (.t p26), some (p24, false), 24575⟩, ⟨some p28, .call (.t p25) [(.t p27), (.c (.int .i64 (.ofNat 0))), (.c (.int .i64 (.ofNat 1099511627776)))], some (p24, false), 65535⟩, ⟨some p29, .un .not (.t p28), some (p24, false), 131071⟩, ⟨some p30, .pick (.t p24) (.c (.bool true)) (.t p29), none, 262143⟩, ⟨some p31, .mov (.t p30), none, 524287⟩, ⟨some p32, .mov (.t p4), some (p31, false), 1048575⟩, ⟨some p33, .faddr 2 (.t p1), some (p31, false), 1048575⟩, ⟨some p34, .load1 (.t p33), some (p31, false), 3145727⟩, ⟨some p35, .call (.t p32) [(.t p34), (.c (.int .i64 (.ofNat 1))), (.c (.int .i64 (.ofNat 1000)))], some (p31, false), 8388607⟩, ⟨some p36, .un .not (.t p35), some (p31, false), 16777215⟩, ⟨some p37, .pick (.t p31) (.c (.bool true)) (.t p36), none, 33554431⟩, ⟨some p38, .mov (.t p37), none, 67108863⟩, ⟨some p39, .faddr 4 (.t p1), some (p38, false), 134217727⟩, ⟨some p40, .load1 (.t p39), some (p38, false), 268435455⟩, ⟨some p41, .len false (.t p40), some (p38, false), 536870911⟩, ⟨some p42, .bin .gtr (.t p41) (.c (.int .i64 (.ofNat 6))), some (p38, false), 1073741823⟩, ⟨some p43, .pick (.t p38) (.c (.bool true)) (.t p42), none, 2147483647⟩] false)
 (.cond (.t p43) (.seq (.region [⟨some p2, .mov (.c (.int .i64 (.ofNat 4))), none, 0⟩] false)
 .ret) .skip))
 (.seq (.seq (.region [⟨some p44, .faddr 4 (.t p1), none, 0⟩, ⟨some p45, .load1 (.t p44), none, 1⟩, ⟨some p46, .len false (.t p45), none, 3⟩, ⟨some p47, .mov (.c (.int .i64 (.ofNat 0))), none, 0⟩] false)
 (.block 0 (.loop (.seq (.region [⟨some p48, .bin .lss (.t p47) (.t p46), none, 0⟩] false)
 (.seq (.cond (.t p48) .skip (.exit 0))
 (.seq (.block 1 (.seq (.region [⟨some p49, .iaddrS 1 (.t p45) (.t p47), none, 0⟩, ⟨some p50, .load1 (.t p49), none, 1⟩, ⟨some p6, .mov (.t p50), none, 3⟩] false)
 (.seq (.seq (.region [⟨some p51, .mov (.t p6), none, 0⟩, ⟨some p52, .len false (.t p51), none, 1⟩, ⟨some p53, .bin .gtr (.t p52) (.c (.int .i64 (.ofNat 6))), none, 3⟩] false)
 (.cond (.t p53) (.seq (.region [⟨some p2, .mov (.c (.int .i64 (.ofNat 4))), none, 0⟩] false)
 .ret) .skip))
 (.seq (.region [⟨some p54, .mov (.t p6), none, 0⟩, ⟨some p55, .len false (.t p54), none, 1⟩, ⟨some p56, .mov (.c (.int .i64 (.ofNat 0))), none, 0⟩] false)
 (.block 2 (.loop (.seq (.region [⟨some p57, .bin .lss (.t p56) (.t p55), none, 0⟩] false)
 (.seq (.cond (.t p57) .skip (.exit 2))
 (.seq (.block 3 (.seq (.region [⟨some p58, .mov (.t p56), none, 0⟩, ⟨some p59, .iaddrS 1 (.t p54) (.t p56), none, 0⟩, ⟨some p60, .load1 (.t p59), none, 2⟩, ⟨some p7, .mov (.t p58), none, 7⟩, ⟨some p8, .mov (.t p60), none, 15⟩] false)
 (.seq (.region [⟨some p61, .mov (.t p8), none, 0⟩, ⟨some p62, .mov (.t p7), none, 0⟩, ⟨some p63, .call (.c (.fn 37 [] [])) [(.t p61), (.t p62)], none, 3⟩, ⟨some p64, .un .not (.t p63), none, 7⟩] false)
 (.cond (.t p64) (.seq (.region [⟨some p2, .mov (.c (.int .i64 (.ofNat 4))), none, 0⟩] false)
 .ret) .skip))))
 (.region [⟨some p65, .bin .add (.t p56) (.c (.int .i64 (.ofNat 1))), none, 0⟩, ⟨some p56, .mov (.t p65), none, 1⟩] false))))))))))
 (.region [⟨some p66, .bin .add (.t p47) (.c (.int .i64 (.ofNat 1))), none, 0⟩, ⟨some p47, .mov (.t p66), none, 1⟩] false)))))))
 (.seq (.region [⟨some p2, .mov (.c (.int .i64 (.ofNat 0))), none, 0⟩] false)
 .ret)))))) }
theorem ok46 : cFn Try.prog 46 = some ef46 := by kernel_rfl
/-- seesawref06.Same -/
def ef53 : EFn := { id := 53, N := 91, res := [(p4, none)], code := (.seq (.region [⟨some p2, .box (.t p0), none, 0⟩, ⟨some p3, .box (.t p1), none, 0⟩, ⟨some p4, .mov (.c (.bool false)), none, 0⟩] false)
 (.seq (.seq (.region [⟨some p7, .faddr 0 (.t p2), none, 0⟩, ⟨some p8, .load1 (.t p7), none, 1⟩, ⟨some p9, .faddr 0 (.t p3), none, 0⟩, ⟨some p10, .load1 (.t p9), none, 4⟩, ⟨some p11, .bin .neq (.t p8) (.t p10), none, 15⟩, ⟨some p12, .mov (.t p11), none, 31⟩, ⟨some p13, .faddr 1 (.t p2), some (p12, false), 63⟩, ⟨some p14, .load1 (.t p13), some (p12, false), 127⟩, ⟨some p15, .faddr 1 (.t p3), some (p12, false), 63⟩, ⟨some p16, .load1 (.t p15), some (p12, false), 319⟩, ⟨some p17, .bin .neq (.t p14) (.t p16), some (p12, false), 1023⟩, ⟨some p18, .pick (.t p12) (.c (.bool true)) (.t p17), none, 2047⟩, ⟨some p19, .mov (.t p18), none, 4095⟩, ⟨some p20, .faddr 2 (.t p2), some (p19, false), 8191⟩, ⟨some p21, .load1 (.t p20), some (p19, false), 16383⟩, ⟨some p22, .faddr 2 (.t p3), some (p19, false), 8191⟩, ⟨some p23, .load1 (.t p22), some (p19, false), 40959⟩, ⟨some p24, .bin .neq (.t p21) (.t p23), some (p19, false), 131071⟩, ⟨some p25, .pick (.t p19) (.c (.bool true)) (.t p24), none, 262143⟩, ⟨some p26, .mov (.t p25), none, 524287⟩, ⟨some p27, .faddr 3 (.t p2), some (p26, false), 1048575⟩, ⟨some p28, .load1 (.t p27), some (p26, false), 2097151⟩, ⟨some p29, .faddr 3 (.t p3), some (p26, false), 1048575⟩, ⟨some p30, .load1 (.t p29), some (p26, false), 5242879⟩, ⟨some p31, .call (.c (.fn 91 [] [])) [(.t p28), (.t p30)], some (p26, false), 16777215⟩, ⟨some p32, .un .not (.t p31), some (p26, false), 33554431⟩, ⟨some p33, .pick (.t p26) (.c (.bool true)) (.t p32), none, 67108863⟩, ⟨some p34, .mov (.t p33), none, 134217727⟩, ⟨some p35, .faddr 4 (.t p2), some (p34, false), 268435455⟩, ⟨some p36, .load1 (.t p35), some (p34, false), 536870911⟩, ⟨some p37, .len false (.t p36), some (p34, false), 1073741823⟩, ⟨some p38, .faddr 4 (.t p3), some (p34, false), 268435455⟩, ⟨some p39, .load1 (.t p38), some (p34, false), 2415919103⟩, ⟨some p40, .len false (.t p39), some (p34, false), 6710886399⟩, ⟨some p41, .bin .neq (.t p37) (.t p40), some (p34, false), 17179869183⟩, ⟨some p42, .pick (.t p34) (.c (.bool true)) (.t p41), none, 34359738367⟩] false)
 (.cond (.t p42) (.seq (.region [⟨some p4, .mov (.c (.bool false)), none, 0⟩] false)
 .ret) .skip))
 (.seq (.seq (.region [⟨some p5, .mov (.c (.int .i64 (.ofNat 0))), none, 0⟩] false)
 (.block 0 (.loop (.seq (.seq (.region [⟨some p43, .mov (.t p5), none, 0⟩, ⟨some p44, .faddr 4 (.t p2), none, 0⟩, ⟨some p45, .load1 (.t p44), none, 2⟩, ⟨some p46, .len false (.t p45), none, 6⟩, ⟨some p47, .bin .lss (.t p43) (.t p46), none, 15⟩] false)
 (.cond (.t p47) .skip (.exit 0)))
 (.seq (.block 1 (.seq (.seq (.region [⟨some p50, .faddr 4 (.t p2), none, 0⟩, ⟨some p51, .load1 (.t p50), none, 1⟩, ⟨some p52, .mov (.t p5), none, 0⟩, ⟨some p53, .iaddrS 1 (.t p51) (.t p52), none, 7⟩, ⟨some p54, .load1 (.t p53), none, 15⟩, ⟨some p55, .len false (.t p54), none, 31⟩, ⟨some p56, .faddr 4 (.t p3), none, 0⟩, ⟨some p57, .load1 (.t p56), none, 64⟩, ⟨some p58, .mov (.t p5), none, 0⟩, ⟨some p59, .iaddrS 1 (.t p57) (.t p58), none, 448⟩, ⟨some p60, .load1 (.t p59), none, 960⟩, ⟨some p61, .len false (.t p60), none, 1984⟩, ⟨some p62, .bin .neq (.t p55) (.t p61), none, 4095⟩] true)
 (.cond (.t p62) (.seq (.region [⟨some p4, .mov (.c (.bool false)), none, 0⟩] false)
 .ret) .skip))
 (.seq (.region [⟨some p6, .mov (.c (.int .i64 (.ofNat 0))), none, 0⟩] false)
 (.block 2 (.loop (.seq (.seq (.region [⟨some p63, .mov (.t p6), none, 0⟩, ⟨some p64, .faddr 4 (.t p2), none, 0⟩, ⟨some p65, .load1 (.t p64), none, 2⟩, ⟨some p66, .mov (.t p5), none, 0⟩, ⟨some p67, .iaddrS 1 (.t p65) (.t p66), none, 14⟩, ⟨some p68, .load1 (.t p67), none, 30⟩, ⟨some p69, .len false (.t p68), none, 62⟩, ⟨some p70, .bin .lss (.t p63) (.t p69), none, 127⟩] false)
 (.cond (.t p70) .skip (.exit 2)))
 (.seq (.block 3 (.seq (.region [⟨some p73, .faddr 4 (.t p2), none, 0⟩, ⟨some p74, .load1 (.t p73), none, 1⟩, ⟨some p75, .mov (.t p5), none, 0⟩, ⟨some p76, .iaddrS 1 (.t p74) (.t p75), none, 7⟩, ⟨some p77, .load1 (.t p76), none, 15⟩, ⟨some p78, .mov (.t p6), none, 0⟩, ⟨some p79, .iaddrS 1 (.t p77) (.t p78), none, 63⟩, ⟨some p80, .load1 (.t p79), none, 127⟩, ⟨some p81, .faddr 4 (.t p3), none, 0⟩, ⟨some p82, .load1 (.t p81), none, 256⟩, ⟨some p83, .mov (.t p5), none, 0⟩, ⟨some p84, .iaddrS 1 (.t p82) (.t p83), none, 1792⟩, ⟨some p85, .load1 (.t p84), none, 3840⟩, ⟨some p86, .mov (.t p6), none, 0⟩, ⟨some p87, .iaddrS 1 (.t p85) (.t p86), none, 16128⟩, ⟨some p88, .load1 (.t p87), none, 32512⟩, ⟨some p89, .call (.c (.fn 92 [] [])) [(.t p80), (.t p88)], none, 65535⟩, ⟨some p90, .un .not (.t p89), none, 131071⟩] true)
 (.cond (.t p90) (.seq (.region [⟨some p4, .mov (.c (.bool false)), none, 0⟩] false)
 .ret) .skip)))
 (.region [⟨some p71, .mov (.t p6), none, 0⟩, ⟨some p72, .bin .add (.t p71) (.c (.int .i64 (.ofNat 1))), none, 1⟩, ⟨some p6, .mov (.t p72), none, 3⟩] false))))))))
 (.region [⟨some p48, .mov (.t p5), none, 0⟩, ⟨some p49, .bin .add (.t p48) (.c (.int .i64 (.ofNat 1))), none, 1⟩, ⟨some p5, .mov (.t p49), none, 3⟩] false))))))
 (.seq (.region [⟨some p4, .mov (.c (.bool true)), none, 0⟩] false)
 .ret)))) }
theorem ok53 : cFn Try.prog 53 = some ef53 := by kernel_rfl
/-- seesawlaw07.works -/
def ef55 : EFn := { id := 55, N := 19, res := [(p0, none)], code := (.seq (.region [⟨some p0, .mov (.c (.bool false)), none, 0⟩] false)
 (.seq (.region [⟨some p4, .call (.c (.fn 56 [] [])) [], none, 0⟩, ⟨some p5, .call (.c (.fn 57 [] [])) [(.t p4)], none, 1⟩, ⟨some p3, .mov (.t p5), none, 3⟩, ⟨some p6, .ext 0 (.t p3), none, 7⟩, ⟨some p7, .ext 1 (.t p3), none, 7⟩, ⟨some p1, .mov (.t p6), none, 15⟩, ⟨some p2, .mov (.t p7), none, 63⟩] false)
 (.seq (.region [⟨some p8, .mov (.t p2), none, 0⟩, ⟨some p9, .bin .eql (.t p8) (.c (.int .i64 (.ofNat 0))), none, 1⟩, ⟨some p10, .mov (.t p9), none, 3⟩, ⟨some p11, .mov (.t p1), some (p10, true), 7⟩, ⟨some p12, .call (.c (.fn 58 [] [])) [(.c (.str [1, 10, 1, 0, 1, 0]))], some (p10, true), 7⟩, ⟨some p13, .bin .eql (.t p11) (.t p12), some (p10, true), 31⟩, ⟨some p14, .pick (.t p10) (.t p13) (.c (.bool false)), none, 63⟩, ⟨some p15, .mov (.t p14), none, 127⟩, ⟨some p16, .call (.c (.fn 56 [] [])) [], some (p15, true), 255⟩, ⟨some p17, .call (.c (.fn 59 [] [])) [(.t p16)], some (p15, true), 511⟩, ⟨some p18, .pick (.t p15) (.t p17) (.c (.bool false)), none, 1023⟩, ⟨some p0, .mov (.t p18), none, 2047⟩] false)
 .ret))) }
theorem ok55 : cFn Try.prog 55 = some ef55 := by kernel_rfl
/-- seesawlaw07.bare -/
def ef56 : EFn := { id := 56, N := 3, res := [(p0, some (some 5))], code := (.seq (.region [⟨some p0, .alloc [(.int .i64 (.ofNat 0)), (.int .i64 (.ofNat 0)), (.int .i64 (.ofNat 0)), .nils, .nils], none, 0⟩] false)
 (.seq (.region [⟨some p1, .buildSl [(.int .i64 (.ofNat 0))] 1 [(0, 1, (.c (.int .i64 (.ofNat 5))))], none, 0⟩, ⟨some p2, .build [(.int .i64 (.ofNat 0)), (.int .i64 (.ofNat 0)), (.int .i64 (.ofNat 0)), .nils, .nils] [(0, 1, (.c (.int .i64 (.ofNat 1)))), (2, 1, (.c (.int .i64 (.ofNat 1)))), (3, 1, (.t p1))], none, 1⟩, ⟨none, .store 5 (.t p0) (.t p2), none, 3⟩] false)
 .ret)) }
theorem ok56 : cFn Try.prog 56 = some ef56 := by kernel_rfl
/-- pack.Encode -/
def ef57 : EFn := { id := 57, N := 82, res := [(p2, none), (p3, none)], code := (.seq (.region [⟨some p1, .box (.t p0), none, 0⟩, ⟨some p2, .mov (.c (.str [])), none, 0⟩, ⟨some p3, .mov (.c (.int .i64 (.ofNat 0))), none, 2⟩] false)
 (.seq (.seq (.region [⟨some p13, .loadN 5 (.t p1), none, 0⟩, ⟨some p14, .call (.c (.fn 46 [] [])) [(.t p13)], none, 1⟩, ⟨some p15, .bin .neq (.t p14) (.c (.int .i64 (.ofNat 0))), none, 3⟩] false)
 (.cond (.t p15) (.seq (.region [⟨some p2, .mov (.c (.str [])), none, 0⟩, ⟨some p3, .mov (.c (.int .i64 (.ofNat 4))), none, 1⟩] false)
 .ret) .skip))
 (.seq (.region [⟨some p17, .call (.c (.fn 94 [] [])) [(.c (.int .i64 (.ofNat 16777216)))], none, 0⟩, ⟨some p16, .mov (.t p17), none, 1⟩, ⟨some p18, .ext 0 (.t p16), none, 3⟩, ⟨some p19, .ext 1 (.t p16), none, 3⟩, ⟨some p4, .mov (.t p18), none, 7⟩, ⟨some p5, .mov (.t p19), none, 31⟩] false)
 (.seq (.seq (.region [⟨some p20, .mov (.t p5), none, 0⟩, ⟨some p21, .bin .neq (.t p20) (.c (.int .i64 (.ofNat 0))), none, 1⟩] false)
 (.cond (.t p21) (.seq (.region [⟨some p22, .mov (.t p5), none, 0⟩, ⟨some p2, .mov (.c (.str [])), none, 0⟩, ⟨some p3, .mov (.t p22), none, 3⟩] false)
 .ret) .skip))
 (.seq (.region [⟨some p23, .mov (.t p4), none, 0⟩, ⟨some p24, .build [.nilp] [(0, 1, (.t p23))], none, 1⟩, ⟨some p6, .alloc [.nilp], none, 0⟩, ⟨none, .store 1 (.t p6) (.t p24), none, 7⟩] false)
 (.seq (.region [⟨some p25, .loadN 1 (.t p6), none, 0⟩, ⟨some p26, .faddr 3 (.t p1), none, 0⟩, ⟨some p27, .load1 (.t p26), none, 2⟩, ⟨some p28, .len false (.t p27), none, 6⟩, ⟨some p29, .buildSl [(.int .i64 (.ofNat 0))] 1 [(0, 1, (.t p28))], none, 14⟩, ⟨some p30, .call (.c (.fn 95 [] [])) [(.t p25), (.t p29)], none, 31⟩] false)
 (.seq (.seq (.region [⟨some p31, .faddr 3 (.t p1), none, 0⟩, ⟨some p32, .load1 (.t p31), none, 1⟩, ⟨some p33, .len false (.t p32), none, 3⟩, ⟨some p34, .mov (.c (.int .i64 (.ofNat 0))), none, 0⟩] false)
 (.block 0 (.loop (.seq (.region [⟨some p35, .bin .lss (.t p34) (.t p33), none, 0⟩] false)
 (.seq (.cond (.t p35) .skip (.exit 0))
 (.seq (.block 1 (.seq (.region [⟨some p36, .iaddrS 1 (.t p32) (.t p34), none, 0⟩, ⟨some p37, .load1 (.t p36), none, 1⟩, ⟨some p8, .mov (.t p37), none, 3⟩] false)
 (.region [⟨some p38, .mov (.t p4), none, 0⟩, ⟨some p39, .mov (.t p8), none, 0⟩, ⟨some p40, .call (.c (.fn 96 [] [])) [(.t p38), (.t p39)], none, 3⟩] false)))
 (.region [⟨some p41, .bin .add (.t p34) (.c (.int .i64 (.ofNat 1))), none, 0⟩, ⟨some p34, .mov (.t p41), none, 1⟩] false)))))))
 (.seq (.region [⟨some p42, .loadN 1 (.t p6), none, 0⟩, ⟨some p43, .faddr 0 (.t p1), none, 0⟩, ⟨some p44, .load1 (.t p43), none, 2⟩, ⟨some p45, .faddr 1 (.t p1), none, 0⟩, ⟨some p46, .load1 (.t p45), none, 8⟩, ⟨some p47, .faddr 2 (.t p1), none, 0⟩, ⟨some p48, .load1 (.t p47), none, 32⟩, ⟨some p49, .faddr 4 (.t p1), none, 0⟩, ⟨some p50, .load1 (.t p49), none, 128⟩, ⟨some p51, .len false (.t p50), none, 384⟩, ⟨some p52, .buildSl [(.int .i64 (.ofNat 0)), (.int .i64 (.ofNat 0)), (.int .i64 (.ofNat 0)), (.int .i64 (.ofNat 0))] 4 [(0, 1, (.t p44)), (1, 1, (.t p46)), (2, 1, (.t p48)), (3, 1, (.t p51))], none, 1022⟩, ⟨some p53, .call (.c (.fn 95 [] [])) [(.t p42), (.t p52)], none, 2047⟩] false)
 (.seq (.seq (.region [⟨some p54, .faddr 4 (.t p1), none, 0⟩, ⟨some p55, .load1 (.t p54), none, 1⟩, ⟨some p56, .len false (.t p55), none, 3⟩, ⟨some p57, .mov (.c (.int .i64 (.ofNat 0))), none, 0⟩] false)
 (.block 2 (.loop (.seq (.region [⟨some p58, .bin .lss (.t p57) (.t p56), none, 0⟩] false)
 (.seq (.cond (.t p58) .skip (.exit 2))
 (.seq (.block 3 (.seq (.region [⟨some p59, .iaddrS 1 (.t p55) (.t p57), none, 0⟩, ⟨some p60, .load1 (.t p59), none, 1⟩, ⟨some p10, .mov (.t p60), none, 3⟩] false)
 (.seq (.region [⟨some p61, .loadN 1 (.t p6), none, 0⟩, ⟨some p62, .mov (.t p10), none, 0⟩, ⟨some p63, .len false (.t p62), none, 2⟩, ⟨some p64, .buildSl [(.int .i64 (.ofNat 0))] 1 [(0, 1, (.t p63))], none, 6⟩, ⟨some p65, .call (.c (.fn 95 [] [])) [(.t p61), (.t p64)], none, 15⟩] false)
 (.seq (.region [⟨some p66, .mov (.t p10), none, 0⟩, ⟨some p67, .len false (.t p66), none, 1⟩, ⟨some p68, .mov (.c (.int .i64 (.ofNat 0))), none, 0⟩] false)
 (.block 4 (.loop (.seq (.region [⟨some p69, .bin .lss (.t p68) (.t p67), none, 0⟩] false)
 (.seq (.cond (.t p69) .skip (.exit 4))
 (.seq (.block 5 (.seq (.region [⟨some p70, .iaddrS 1 (.t p66) (.t p68), none, 0⟩, ⟨some p71, .load1 (.t p70), none, 1⟩, ⟨some p12, .mov (.t p71), none, 3⟩] false)
 (.region [⟨some p72, .loadN 1 (.t p6), none, 0⟩, ⟨some p73, .mov (.t p12), none, 0⟩, ⟨some p74, .call (.c (.fn 97 [] [])) [(.t p72), (.t p73)], none, 3⟩] false)))
 (.region [⟨some p75, .bin .add (.t p68) (.c (.int .i64 (.ofNat 1))), none, 0⟩, ⟨some p68, .mov (.t p75), none, 1⟩] false))))))))))
 (.region [⟨some p76, .bin .add (.t p57) (.c (.int .i64 (.ofNat 1))), none, 0⟩, ⟨some p57, .mov (.t p76), none, 1⟩] false)))))))
 (.seq (.region [⟨some p77, .mov (.t p4), none, 0⟩, ⟨some p78, .call (.c (.fn 98 [] [])) [(.t p77)], none, 1⟩, ⟨some p79, .call (.c (.fn 20 [] [])) [(.t p78)], none, 3⟩, ⟨some p80, .ext 0 (.t p79), none, 7⟩, ⟨some p81, .ext 1 (.t p79), none, 7⟩, ⟨some p2, .mov (.t p80), none, 31⟩, ⟨some p3, .mov (.t p81), none, 63⟩] false)
 .ret)))))))))) }
theorem ok57 : cFn Try.prog 57 = some ef57 := by kernel_rfl
/-- seesawlaw07.framed -/
def ef58 : EFn := { id := 58, N := 11, res := [(p2, none)], code := (.seq (.region [⟨some p2, .mov (.c (.str [])), none, 0⟩] false)
 (.seq (.region [⟨some p6, .mov (.t p0), none, 0⟩, ⟨some p7, .call (.c (.fn 20 [] [])) [(.t p6)], none, 1⟩, ⟨some p5, .mov (.t p7), none, 3⟩, ⟨some p8, .ext 0 (.t p5), none, 7⟩, ⟨some p9, .ext 1 (.t p5), none, 7⟩, ⟨some p3, .mov (.t p8), none, 15⟩, ⟨some p4, .mov (.t p9), none, 63⟩] false)
 (.seq (.region [⟨some p10, .mov (.t p3), none, 0⟩, ⟨some p2, .mov (.t p10), none, 1⟩] false)
 .ret))) }
theorem ok58 : cFn Try.prog 58 = some ef58 := by kernel_rfl
/-- seesawlaw07.back -/
def ef59 : EFn := { id := 59, N := 34, res := [(p2, none)], code := (.seq (.region [⟨some p1, .box (.t p0), none, 0⟩, ⟨some p2, .mov (.c (.bool false)), none, 0⟩] false)
 (.seq (.region [⟨some p9, .loadN 5 (.t p1), none, 0⟩, ⟨some p10, .call (.c (.fn 57 [] [])) [(.t p9)], none, 1⟩, ⟨some p8, .mov (.t p10), none, 3⟩, ⟨some p11, .ext 0 (.t p8), none, 7⟩, ⟨some p12, .ext 1 (.t p8), none, 7⟩, ⟨some p3, .mov (.t p11), none, 15⟩, ⟨some p4, .mov (.t p12), none, 63⟩] false)
 (.seq (.region [⟨some p14, .mov (.t p3), none, 0⟩, ⟨some p15, .call (.c (.fn 61 [] [])) [(.t p14)], none, 1⟩, ⟨some p13, .mov (.t p15), none, 3⟩, ⟨some p16, .ext 0 (.t p13), none, 7⟩, ⟨some p17, .ext 1 (.t p13), none, 7⟩, ⟨some p18, .ext 2 (.t p13), none, 7⟩, ⟨some p5, .alloc [(.int .i64 (.ofNat 0)), (.int .i64 (.ofNat 0)), (.int .i64 (.ofNat 0)), .nils, .nils], none, 0⟩, ⟨none, .store 5 (.t p5) (.t p16), none, 79⟩, ⟨some p6, .mov (.t p17), none, 223⟩, ⟨some p7, .mov (.t p18), none, 511⟩] false)
 (.seq (.region [⟨some p19, .mov (.t p4), none, 0⟩, ⟨some p20, .bin .eql (.t p19) (.c (.int .i64 (.ofNat 0))), none, 1⟩, ⟨some p21, .mov (.t p20), none, 3⟩, ⟨some p22, .mov (.t p7), some (p21, true), 7⟩, ⟨some p23, .bin .eql (.t p22) (.c (.int .i64 (.ofNat 0))), some (p21, true), 15⟩, ⟨some p24, .pick (.t p21) (.t p23) (.c (.bool false)), none, 31⟩, ⟨some p25, .mov (.t p24), none, 63⟩, ⟨some p26, .mov (.t p6), some (p25, true), 127⟩, ⟨some p27, .bin .eql (.t p26) (.c (.int .i64 (.ofNat 0))), some (p25, true), 255⟩, ⟨some p28, .pick (.t p25) (.t p27) (.c (.bool false)), none, 511⟩, ⟨some p29, .mov (.t p28), none, 1023⟩, ⟨some p30, .loadN 5 (.t p1), some (p29, true), 2047⟩, ⟨some p31, .loadN 5 (.t p5), some (p29, true), 2047⟩, ⟨some p32, .call (.c (.fn 53 [] [])) [(.t p30), (.t p31)], some (p29, true), 8191⟩, ⟨some p33, .pick (.t p29) (.t p32) (.c (.bool false)), none, 16383⟩, ⟨some p2, .mov (.t p33), none, 32767⟩] false)
 .ret)))) }
theorem ok59 : cFn Try.prog 59 = some ef59 := by kernel_rfl
/-- seesawlaw07.no -/
def ef60 : EFn := { id := 60, N := 39, res := [(p6, none)], code := (.seq (.region [⟨some p6, .mov (.c (.bool false)), none, 0⟩] false)
 (.seq (.region [⟨some p11, .mov (.t p0), none, 0⟩, ⟨some p12, .call (.c (.fn 58 [] [])) [(.t p11)], none, 1⟩, ⟨some p7, .mov (.t p12), none, 3⟩] false)
 (.seq (.region [⟨some p14, .mov (.t p7), none, 0⟩, ⟨some p15, .call (.c (.fn 61 [] [])) [(.t p14)], none, 1⟩, ⟨some p13, .mov (.t p15), none, 3⟩, ⟨some p16, .ext 0 (.t p13), none, 7⟩, ⟨some p17, .ext 1 (.t p13), none, 7⟩, ⟨some p18, .ext 2 (.t p13), none, 7⟩, ⟨some p8, .alloc [(.int .i64 (.ofNat 0)), (.int .i64 (.ofNat 0)), (.int .i64 (.ofNat 0)), .nils, .nils], none, 0⟩, ⟨none, .store 5 (.t p8) (.t p16), none, 79⟩, ⟨some p9, .mov (.t p17), none, 223⟩, ⟨some p10, .mov (.t p18), none, 511⟩] false)
 (.seq (.region [⟨some p19, .mov (.t p9), none, 0⟩, ⟨some p20, .mov (.t p7), none, 0⟩, ⟨some p21, .len true (.t p20), none, 2⟩, ⟨some p22, .mov (.t p0), none, 0⟩, ⟨some p23, .len true (.t p22), none, 8⟩, ⟨some p24, .bin .sub (.t p21) (.t p23), none, 30⟩, ⟨some p25, .bin .sub (.t p24) (.c (.int .i64 (.ofNat 4))), none, 62⟩, ⟨some p26, .mov (.t p1), none, 0⟩, ⟨some p27, .bin .add (.t p25) (.t p26), none, 254⟩, ⟨some p28, .bin .eql (.t p19) (.t p27), none, 511⟩, ⟨some p29, .mov (.t p28), none, 1023⟩, ⟨some p30, .mov (.t p10), some (p29, true), 2047⟩, ⟨some p31, .mov (.t p2), some (p29, true), 2047⟩, ⟨some p32, .bin .eql (.t p30) (.t p31), some (p29, true), 8191⟩, ⟨some p33, .pick (.t p29) (.t p32) (.c (.bool false)), none, 16383⟩, ⟨some p34, .mov (.t p33), none, 32767⟩, ⟨some p35, .loadN 5 (.t p8), some (p34, true), 65535⟩, ⟨some p36, .build [(.int .i64 (.ofNat 0)), (.int .i64 (.ofNat 0)), (.int .i64 (.ofNat 0)), .nils, .nils] [], some (p34, true), 65535⟩, ⟨some p37, .call (.c (.fn 53 [] [])) [(.t p35), (.t p36)], some (p34, true), 262143⟩, ⟨some p38, .pick (.t p34) (.t p37) (.c (.bool false)), none, 524287⟩, ⟨some p6, .mov (.t p38), none, 1048575⟩] false)
 .ret)))) }
theorem ok60 : cFn Try.prog 60 = some ef60 := by kernel_rfl
/-- pack.Decode -/
def ef61 : EFn := { id := 61, N := 62, res := [(p2, some (some 5)), (p3, none), (p4, none)], code := (.seq (.region [⟨some p2, .alloc [(.int .i64 (.ofNat 0)), (.int .i64 (.ofNat 0)), (.int .i64 (.ofNat 0)), .nils, .nils], none, 0⟩, ⟨some p3, .mov (.c (.int .i64 (.ofNat 0))), none, 0⟩, ⟨some p4, .mov (.c (.int .i64 (.ofNat 0))), none, 2⟩] false)
 (.seq (.region [⟨some p11, .mov (.t p0), none, 0⟩, ⟨some p12, .call (.c (.fn 25 [] [])) [(.t p11)], none, 1⟩, ⟨some p10, .mov (.t p12), none, 3⟩, ⟨some p13, .ext 0 (.t p10), none, 7⟩, ⟨some p14, .ext 1 (.t p10), none, 7⟩, ⟨some p15, .ext 2 (.t p10), none, 7⟩, ⟨some p5, .mov (.t p13), none, 15⟩, ⟨some p3, .mov (.t p14), none, 95⟩, ⟨some p4, .mov (.t p15), none, 255⟩] false)
 (.seq (.seq (.region [⟨some p16, .mov (.t p4), none, 0⟩, ⟨some p17, .bin .neq (.t p16) (.c (.int .i64 (.ofNat 0))), none, 1⟩] false)
 (.cond (.t p17) (.seq (.region [⟨some p18, .build [(.int .i64 (.ofNat 0)), (.int .i64 (.ofNat 0)), (.int .i64 (.ofNat 0)), .nils, .nils] [], none, 0⟩, ⟨some p19, .mov (.t p3), none, 0⟩, ⟨some p20, .mov (.t p4), none, 0⟩, ⟨none, .store 5 (.t p2) (.t p18), none, 1⟩, ⟨some p3, .mov (.t p19), none, 11⟩, ⟨some p4, .mov (.t p20), none, 31⟩] false)
 .ret) .skip))
 (.seq (.region [⟨some p22, .mov (.t p5), none, 0⟩, ⟨some p23, .call (.c (.fn 99 [] [])) [(.t p22)], none, 1⟩, ⟨some p21, .mov (.t p23), none, 3⟩, ⟨some p24, .ext 0 (.t p21), none, 7⟩, ⟨some p25, .ext 1 (.t p21), none, 7⟩, ⟨some p6, .mov (.t p24), none, 15⟩, ⟨some p4, .mov (.t p25), none, 63⟩] false)
 (.seq (.seq (.region [⟨some p26, .mov (.t p4), none, 0⟩, ⟨some p27, .bin .neq (.t p26) (.c (.int .i64 (.ofNat 0))), none, 1⟩] false)
 (.cond (.t p27) (.seq (.region [⟨some p28, .build [(.int .i64 (.ofNat 0)), (.int .i64 (.ofNat 0)), (.int .i64 (.ofNat 0)), .nils, .nils] [], none, 0⟩, ⟨some p29, .mov (.t p4), none, 0⟩, ⟨none, .store 5 (.t p2) (.t p28), none, 1⟩, ⟨some p3, .mov (.c (.int .i64 (.ofNat 0))), none, 5⟩, ⟨some p4, .mov (.t p29), none, 15⟩] false)
 .ret) .skip))
 (.seq (.region [⟨some p30, .mov (.t p0), none, 0⟩, ⟨some p31, .len true (.t p30), none, 1⟩, ⟨some p32, .mov (.t p5), none, 0⟩, ⟨some p33, .len true (.t p32), none, 4⟩, ⟨some p34, .bin .sub (.t p31) (.t p33), none, 15⟩, ⟨some p35, .bin .sub (.t p34) (.c (.int .i64 (.ofNat 4))), none, 31⟩, ⟨some p7, .mov (.t p35), none, 63⟩] false)
 (.seq (.region [⟨some p36, .mov (.t p6), none, 0⟩, ⟨some p37, .build [.nilp] [(0, 1, (.t p36))], none, 1⟩, ⟨some p38, .call (.c (.fn 100 [] [])) [(.t p37)], none, 3⟩, ⟨none, .store 5 (.t p2) (.t p38), none, 7⟩] false)
 (.seq (.region [⟨some p39, .mov (.t p6), none, 0⟩, ⟨some p40, .call (.c (.fn 101 [] [])) [(.t p39)], none, 1⟩] false)
 (.seq (.seq (.region [⟨some p42, .mov (.t p6), none, 0⟩, ⟨some p43, .call (.c (.fn 102 [] [])) [(.t p42)], none, 1⟩, ⟨some p41, .mov (.t p43), none, 3⟩, ⟨some p44, .ext 0 (.t p41), none, 7⟩, ⟨some p45, .ext 1 (.t p41), none, 7⟩, ⟨some p8, .mov (.t p44), none, 15⟩, ⟨some p9, .mov (.t p45), none, 63⟩] false)
 (.seq (.region [⟨some p46, .mov (.t p9), none, 0⟩, ⟨some p47, .bin .neq (.t p46) (.c (.int .i64 (.ofNat 0))), none, 1⟩] false)
 (.cond (.t p47) (.seq (.region [⟨some p48, .build [(.int .i64 (.ofNat 0)), (.int .i64 (.ofNat 0)), (.int .i64 (.ofNat 0)), .nils, .nils] [], none, 0⟩, ⟨some p49, .mov (.t p7), none, 0⟩, ⟨some p50, .mov (.t p8), none, 0⟩, ⟨some p51, .bin .add (.t p49) (.t p50), none, 6⟩, ⟨some p52, .mov (.t p9), none, 0⟩, ⟨none, .store 5 (.t p2) (.t p48), none, 1⟩, ⟨some p3, .mov (.t p51), none, 47⟩, ⟨some p4, .mov (.t p52), none, 127⟩] false)
 .ret) .skip)))
 (.seq (.seq (.region [⟨some p53, .loadN 5 (.t p2), none, 0⟩, ⟨some p54, .call (.c (.fn 46 [] [])) [(.t p53)], none, 1⟩, ⟨some p55, .bin .neq (.t p54) (.c (.int .i64 (.ofNat 0))), none, 3⟩] false)
 (.cond (.t p55) (.seq (.region [⟨some p56, .build [(.int .i64 (.ofNat 0)), (.int .i64 (.ofNat 0)), (.int .i64 (.ofNat 0)), .nils, .nils] [], none, 0⟩, ⟨some p57, .mov (.t p7), none, 0⟩, ⟨some p58, .mov (.t p5), none, 0⟩, ⟨some p59, .len true (.t p58), none, 4⟩, ⟨some p60, .bin .add (.t p57) (.t p59), none, 14⟩, ⟨none, .store 5 (.t p2) (.t p56), none, 1⟩, ⟨some p3, .mov (.t p60), none, 63⟩, ⟨some p4, .mov (.c (.int .i64 (.ofNat 4))), none, 127⟩] false)
 .ret) .skip))
 (.seq (.region [⟨some p61, .loadN 5 (.t p2), none, 0⟩, ⟨none, .store 5 (.t p2) (.t p61), none, 1⟩, ⟨some p3, .mov (.c (.int .i64 (.ofNat 0))), none, 3⟩, ⟨some p4, .mov (.c (.int .i64 (.ofNat 0))), none, 7⟩] false)
 .ret))))))))))) }
theorem ok61 : cFn Try.prog 61 = some ef61 := by kernel_rfl
/-- varint.Put -/
def ef63 : EFn := { id := 63, N := 25, res := [(p2, none)], code := (.seq (.region [⟨some p2, .mov (.c (.str [])), none, 0⟩] false)
 (.seq (.region [⟨some p3, .alloc [(.int .u8 (.ofNat 0)), (.int .u8 (.ofNat 0)), (.int .u8 (.ofNat 0)), (.int .u8 (.ofNat 0)), (.int .u8 (.ofNat 0)), (.int .u8 (.ofNat 0)), (.int .u8 (.ofNat 0)), (.int .u8 (.ofNat 0)), (.int .u8 (.ofNat 0)), (.int .u8 (.ofNat 0))], none, 0⟩] false)
 (.seq (.region [⟨some p4, .mov (.c (.int .i64 (.ofNat 0))), none, 0⟩] false)
 (.seq .skip
 (.seq (.block 0 (.loop (.block 1 (.seq (.region [⟨some p5, .mov (.t p4), none, 0⟩, ⟨some p6, .mov (.t p0), none, 0⟩, ⟨some p7, .conv .u8 (.t p6), none, 2⟩, ⟨some p8, .bin .or (.t p7) (.c (.int .u8 (.ofNat 128))), none, 6⟩, ⟨some p9, .iaddrA 10 1 (.t p3) (.t p5), none, 15⟩, ⟨none, .store 1 (.t p9) (.t p8), none, 31⟩] false)
 (.seq (.region [⟨some p10, .mov (.t p4), none, 0⟩, ⟨some p11, .bin .add (.t p10) (.c (.int .i64 (.ofNat 1))), none, 1⟩, ⟨some p4, .mov (.t p11), none, 3⟩] false)
 (.seq (.region [⟨some p12, .mov (.t p0), none, 0⟩, ⟨some p13, .bin .shr (.t p12) (.c (.int .u64 (.ofNat 7))), none, 1⟩, ⟨some p0, .mov (.t p13), none, 3⟩] false)
 (.seq (.region [⟨some p14, .mov (.t p0), none, 0⟩, ⟨some p15, .bin .eql (.t p14) (.c (.int .u64 (.ofNat 0))), none, 1⟩] false)
 (.cond (.t p15) (.exit 0) .skip))))))))
 (.seq (.region [⟨some p16, .mov (.t p4), none, 0⟩, ⟨some p17, .bin .sub (.t p16) (.c (.int .i64 (.ofNat 1))), none, 1⟩, ⟨some p18, .iaddrA 10 1 (.t p3) (.t p17), none, 3⟩, ⟨some p19, .load1 (.t p18), none, 7⟩, ⟨some p20, .bin .andNot (.t p19) (.c (.int .u8 (.ofNat 128))), none, 15⟩, ⟨some p21, .iaddrA 10 1 (.t p3) (.t p17), none, 31⟩, ⟨none, .store 1 (.t p21) (.t p20), none, 63⟩] false)
 (.seq (.region [⟨some p22, .mov (.t p4), none, 0⟩, ⟨some p23, .slcA 10 1 (.t p3) none (some (.t p22)), none, 1⟩, ⟨some p24, .b2s (.t p23), none, 3⟩, ⟨some p2, .mov (.t p24), none, 7⟩] false)
 .ret))))))) }
theorem ok63 : cFn Try.prog 63 = some ef63 := by kernel_rfl
/-- varint.Get -/
def ef68 : EFn := { id := 68, N := 52, res := [(p2, none), (p3, none), (p4, none)], code := (.seq (.region [⟨some p2, .mov (.c (.int .u64 (.ofNat 0))), none, 0⟩, ⟨some p3, .mov (.c (.int .i64 (.ofNat 0))), none, 1⟩, ⟨some p4, .mov (.c (.int .i64 (.ofNat 0))), none, 3⟩] false)
 (.seq (.seq (.region [⟨some p6, .mov (.c (.int .i64 (.ofNat 0))), none, 0⟩] false)
 (.block 0 (.loop (.seq (.region [⟨some p7, .bin .lss (.t p6) (.c (.int .i64 (.ofNat 10))), none, 0⟩] false)
 (.seq (.cond (.t p7) .skip (.exit 0))
 (.seq (.block 1 (.seq (.region [⟨some p8, .mov (.t p6), none, 0⟩, ⟨some p5, .mov (.t p8), none, 1⟩] false)
 (.seq (.block 2 (.seq (.region [⟨some p10, .mov (.t p5), none, 0⟩, ⟨some p11, .mov (.t p0), none, 0⟩, ⟨some p12, .len true (.t p11), none, 2⟩, ⟨some p13, .bin .eql (.t p10) (.t p12), none, 7⟩, ⟨some p9, .mov (.t p13), none, 15⟩] false)
 (.cond (.t p9) (.seq (.region [⟨some p2, .mov (.c (.int .u64 (.ofNat 0))), none, 0⟩, ⟨some p3, .mov (.c (.int .i64 (.ofNat 0))), none, 1⟩, ⟨some p4, .mov (.c (.int .i64 (.ofNat 8))), none, 3⟩] false)
 .ret) (.seq (.region [⟨some p15, .mov (.t p5), none, 0⟩, ⟨some p16, .bin .eql (.t p15) (.c (.int .i64 (.ofNat 9))), none, 1⟩, ⟨some p17, .mov (.t p16), none, 3⟩, ⟨some p18, .mov (.t p0), some (p17, true), 7⟩, ⟨some p19, .mov (.t p5), some (p17, true), 7⟩, ⟨some p20, .idxS (.t p18) (.t p19), some (p17, true), 31⟩, ⟨some p21, .bin .gtr (.t p20) (.c (.int .u8 (.ofNat 1))), some (p17, true), 63⟩, ⟨some p22, .pick (.t p17) (.t p21) (.c (.bool false)), none, 127⟩, ⟨some p14, .mov (.t p22), none, 255⟩] false)
 (.cond (.t p14) (.seq (.region [⟨some p2, .mov (.c (.int .u64 (.ofNat 0))), none, 0⟩, ⟨some p3, .mov (.c (.int .i64 (.ofNat 0))), none, 1⟩, ⟨some p4, .mov (.c (.int .i64 (.ofNat 20))), none, 3⟩] false)
 .ret) .skip)))))
 (.seq (.region [⟨some p23, .mov (.t p2), none, 0⟩, ⟨some p24, .mov (.t p0), none, 0⟩, ⟨some p25, .mov (.t p5), none, 0⟩, ⟨some p26, .idxS (.t p24) (.t p25), none, 6⟩, ⟨some p27, .bin .andNot (.t p26) (.c (.int .u8 (.ofNat 128))), none, 14⟩, ⟨some p28, .conv .u64 (.t p27), none, 30⟩, ⟨some p29, .mov (.t p5), none, 0⟩, ⟨some p30, .bin .mul (.c (.int .i64 (.ofNat 7))) (.t p29), none, 64⟩, ⟨some p31, .bin .shl (.t p28) (.t p30), none, 254⟩, ⟨some p32, .bin .or (.t p23) (.t p31), none, 511⟩, ⟨some p2, .mov (.t p32), none, 1023⟩] false)
 (.seq (.block 3 (.seq (.region [⟨some p34, .mov (.t p0), none, 0⟩, ⟨some p35, .mov (.t p5), none, 0⟩, ⟨some p36, .idxS (.t p34) (.t p35), none, 3⟩, ⟨some p37, .bin .and (.t p36) (.c (.int .u8 (.ofNat 128))), none, 7⟩, ⟨some p38, .bin .neq (.t p37) (.c (.int .u8 (.ofNat 0))), none, 15⟩, ⟨some p33, .mov (.t p38), none, 31⟩] false)
 (.cond (.t p33) (.exit 1) (.seq (.region [⟨some p40, .mov (.t p5), none, 0⟩, ⟨some p41, .bin .gtr (.t p40) (.c (.int .i64 (.ofNat 0))), none, 1⟩, ⟨some p42, .mov (.t p41), none, 3⟩, ⟨some p43, .mov (.t p0), some (p42, true), 7⟩, ⟨some p44, .mov (.t p5), some (p42, true), 7⟩, ⟨some p45, .idxS (.t p43) (.t p44), some (p42, true), 31⟩, ⟨some p46, .bin .eql (.t p45) (.c (.int .u8 (.ofNat 0))), some (p42, true), 63⟩, ⟨some p47, .pick (.t p42) (.t p46) (.c (.bool false)), none, 127⟩, ⟨some p39, .mov (.t p47), none, 255⟩] false)
 (.cond (.t p39) (.seq (.region [⟨some p2, .mov (.c (.int .u64 (.ofNat 0))), none, 0⟩, ⟨some p3, .mov (.c (.int .i64 (.ofNat 0))), none, 1⟩, ⟨some p4, .mov (.c (.int .i64 (.ofNat 11))), none, 3⟩] false)
 .ret) .skip)))))
 (.seq (.region [⟨some p48, .mov (.t p2), none, 0⟩, ⟨some p49, .mov (.t p5), none, 0⟩, ⟨some p50, .bin .add (.t p49) (.c (.int .i64 (.ofNat 1))), none, 2⟩, ⟨some p2, .mov (.t p48), none, 1⟩, ⟨some p3, .mov (.t p50), none, 15⟩, ⟨some p4, .mov (.c (.int .i64 (.ofNat 0))), none, 31⟩] false)
 .ret))))))
 (.region [⟨some p51, .bin .add (.t p6) (.c (.int .i64 (.ofNat 1))), none, 0⟩, ⟨some p6, .mov (.t p51), none, 1⟩] false)))))))
 (.seq (.region [⟨some p2, .mov (.c (.int .u64 (.ofNat 0))), none, 0⟩, ⟨some p3, .mov (.c (.int .i64 (.ofNat 0))), none, 1⟩, ⟨some p4, .mov (.c (.int .i64 (.ofNat 20))), none, 3⟩] false)
 .ret))) }
theorem ok68 : cFn Try.prog 68 = some ef68 := by kernel_rfl
/-- code.Count -/
def ef70 : EFn := { id := 70, N := 21, res := [(p2, some none), (p3, some none)], code := (.seq (.region [⟨some p2, .alloc [(.int .i64 (.ofNat 0))], none, 0⟩, ⟨some p3, .alloc [(.int .i64 (.ofNat 0))], none, 0⟩] false)
 (.seq (.seq (.region [⟨some p5, .mov (.t p0), none, 0⟩, ⟨some p6, .call (.c (.fn 72 [] [])) [(.t p5)], none, 1⟩] false)
 (.block 0 (.rangeF (.t p6) [p7] (.region [⟨some p4, .alloc [(.int .u8 (.ofNat 0)), (.int .i64 (.ofNat 0)), (.int .u8 (.ofNat 0)), (.int .i64 (.ofNat 0)), .nils, (.int .u8 (.ofNat 0)), (.int .i64 (.ofNat 0)), .nils, .nils, .nils], none, 0⟩, ⟨none, .store 10 (.t p4) (.t p7), none, 1⟩] false) (.block 1 (.seq (.region [⟨some p8, .load1 (.t p2), none, 0⟩, ⟨some p9, .bin .add (.t p8) (.c (.int .i64 (.ofNat 1))), none, 1⟩, ⟨none, .store 1 (.t p2) (.t p9), none, 3⟩] false)
 (.region [⟨some p10, .load1 (.t p3), none, 0⟩, ⟨some p11, .faddr 2 (.t p4), none, 0⟩, ⟨some p12, .loadN 3 (.t p11), none, 2⟩, ⟨some p13, .call (.c (.fn 107 [] [])) [(.t p12)], none, 6⟩, ⟨some p14, .faddr 5 (.t p4), none, 0⟩, ⟨some p15, .loadN 3 (.t p14), none, 16⟩, ⟨some p16, .call (.c (.fn 107 [] [])) [(.t p15)], none, 62⟩, ⟨some p17, .bin .add (.t p13) (.t p16), none, 126⟩, ⟨some p18, .bin .add (.t p10) (.t p17), none, 255⟩, ⟨none, .store 1 (.t p3) (.t p18), none, 511⟩] true))))))
 (.seq (.region [⟨some p19, .load1 (.t p2), none, 0⟩, ⟨some p20, .load1 (.t p3), none, 0⟩, ⟨none, .store 1 (.t p2) (.t p19), none, 1⟩, ⟨none, .store 1 (.t p3) (.t p20), none, 7⟩] true)
 .ret))) }
theorem ok70 : cFn Try.prog 70 = some ef70 := by kernel_rfl
/-- code.all -/
def ef72 : EFn := { id := 72, N := 4, res := [(p2, none)], code := (.seq (.region [⟨some p1, .box (.t p0), none, 0⟩, ⟨some p2, .mov (.c .nilf), none, 0⟩] false)
 (.seq (.region [⟨some p3, .mkfn 108 [] [(.t p1)], none, 0⟩, ⟨some p2, .mov (.t p3), none, 1⟩] false)
 .ret)) }
theorem ok72 : cFn Try.prog 72 = some ef72 := by kernel_rfl
/-- code.shaped -/
def ef73 : EFn := { id := 73, N := 68, res := [(p4, none)], code := (.seq (.region [⟨some p2, .box (.t p0), none, 0⟩, ⟨some p3, .box (.t p1), none, 0⟩, ⟨some p4, .mov (.c (.bool false)), none, 0⟩] false)
 (.seq (.region [⟨some p7, .faddr 0 (.t p2), none, 0⟩, ⟨some p8, .load1 (.t p7), none, 1⟩, ⟨some p9, .call (.c (.fn 110 [] [])) [(.t p8)], none, 3⟩, ⟨some p5, .alloc [(.bool false), (.bool false), (.bool false), (.bool false), (.bool false), (.bool false)], none, 0⟩, ⟨none, .store 6 (.t p5) (.t p9), none, 15⟩] false)
 (.seq (.region [⟨some p10, .mkfn 111 [] [(.t p3)], none, 0⟩, ⟨some p6, .mov (.t p10), none, 1⟩] false)
 (.seq (.block 0 (.seq (.region [⟨some p12, .loadN 6 (.t p5), none, 0⟩, ⟨some p13, .build [(.bool false), (.bool false), (.bool false), (.bool false), (.bool false), (.bool false)] [], none, 0⟩, ⟨some p14, .eq false (.bools [0, 1, 2, 3, 4, 5]) (.t p12) (.t p13), none, 3⟩, ⟨some p11, .mov (.t p14), none, 7⟩] false)
 (.cond (.t p11) (.seq (.region [⟨some p4, .mov (.c (.bool false)), none, 0⟩] false)
 .ret) (.seq (.region [⟨some p16, .faddr 1 (.t p2), none, 0⟩, ⟨some p17, .load1 (.t p16), none, 1⟩, ⟨some p18, .bin .lss (.t p17) (.c (.int .i64 (.ofNat 0))), none, 3⟩, ⟨some p19, .mov (.t p18), none, 7⟩, ⟨some p20, .faddr 1 (.t p2), some (p19, false), 15⟩, ⟨some p21, .load1 (.t p20), some (p19, false), 31⟩, ⟨some p22, .bin .geq (.t p21) (.c (.int .i64 (.ofNat 8))), some (p19, false), 63⟩, ⟨some p23, .pick (.t p19) (.c (.bool true)) (.t p22), none, 127⟩, ⟨some p24, .mov (.t p23), none, 255⟩, ⟨some p25, .faddr 1 (.t p5), some (p24, false), 511⟩, ⟨some p26, .load1 (.t p25), some (p24, false), 1023⟩, ⟨some p27, .un .not (.t p26), some (p24, false), 2047⟩, ⟨some p28, .mov (.t p27), some (p24, false), 4095⟩, ⟨some p29, .faddr 1 (.t p2), some (p28, true), 8191⟩, ⟨some p30, .load1 (.t p29), some (p28, true), 16383⟩, ⟨some p31, .bin .neq (.t p30) (.c (.int .i64 (.ofNat 0))), some (p28, true), 32767⟩, ⟨some p32, .pick (.t p28) (.t p31) (.c (.bool false)), some (p24, false), 65535⟩, ⟨some p33, .pick (.t p24) (.c (.bool true)) (.t p32), none, 131071⟩, ⟨some p15, .mov (.t p33), none, 262143⟩] false)
 (.cond (.t p15) (.seq (.region [⟨some p4, .mov (.c (.bool false)), none, 0⟩] false)
 .ret) .skip)))))
 (.seq (.region [⟨some p34, .mov (.t p6), none, 0⟩, ⟨some p35, .faddr 2 (.t p5), none, 0⟩, ⟨some p36, .load1 (.t p35), none, 2⟩, ⟨some p37, .faddr 2 (.t p2), none, 0⟩, ⟨some p38, .loadN 3 (.t p37), none, 8⟩, ⟨some p39, .call (.t p34) [(.t p36), (.t p38)], none, 31⟩, ⟨some p40, .mov (.t p39), none, 63⟩, ⟨some p41, .mov (.t p6), some (p40, true), 127⟩, ⟨some p42, .faddr 3 (.t p5), some (p40, true), 127⟩, ⟨some p43, .load1 (.t p42), some (p40, true), 383⟩, ⟨some p44, .faddr 5 (.t p2), some (p40, true), 127⟩, ⟨some p45, .loadN 3 (.t p44), some (p40, true), 1151⟩, ⟨some p46, .call (.t p41) [(.t p43), (.t p45)], some (p40, true), 4095⟩, ⟨some p47, .pick (.t p40) (.t p46) (.c (.bool false)), none, 8191⟩, ⟨some p48, .mov (.t p47), none, 16383⟩, ⟨some p49, .faddr 4 (.t p5), some (p48, true), 32767⟩, ⟨some p50, .load1 (.t p49), some (p48, true), 65535⟩, ⟨some p51, .mov (.t p50), some (p48, true), 131071⟩, ⟨some p52, .faddr 8 (.t p2), some (p51, false), 262143⟩, ⟨some p53, .load1 (.t p52), some (p51, false), 524287⟩, ⟨some p54, .len false (.t p53), some (p51, false), 1048575⟩, ⟨some p55, .bin .eql (.t p54) (.c (.int .i64 (.ofNat 0))), some (p51, false), 2097151⟩, ⟨some p56, .pick (.t p51) (.c (.bool true)) (.t p55), some (p48, true), 4194303⟩, ⟨some p57, .pick (.t p48) (.t p56) (.c (.bool false)), none, 8388607⟩, ⟨some p58, .mov (.t p57), none, 16777215⟩, ⟨some p59, .faddr 5 (.t p5), some (p58, true), 33554431⟩, ⟨some p60, .load1 (.t p59), some (p58, true), 67108863⟩, ⟨some p61, .mov (.t p60), some (p58, true), 134217727⟩, ⟨some p62, .faddr 9 (.t p2), some (p61, false), 268435455⟩, ⟨some p63, .load1 (.t p62), some (p61, false), 536870911⟩, ⟨some p64, .len false (.t p63), some (p61, false), 1073741823⟩, ⟨some p65, .bin .eql (.t p64) (.c (.int .i64 (.ofNat 0))), some (p61, false), 2147483647⟩, ⟨some p66, .pick (.t p61) (.c (.bool true)) (.t p65), some (p58, true), 4294967295⟩, ⟨some p67, .pick (.t p58) (.t p66) (.c (.bool false)), none, 8589934591⟩, ⟨some p4, .mov (.t p67), none, 17179869183⟩] false)
 .ret))))) }
theorem ok73 : cFn Try.prog 73 = some ef73 := by kernel_rfl
/-- setup.Check$1 -/
def ef77 : EFn := { id := 77, N := 15, res := [(p6, none)], code := (.seq (.region [⟨some p6, .mov (.c (.bool false)), none, 0⟩] false)
 (.seq (.region [⟨some p7, .mov (.t p0), none, 0⟩, ⟨some p8, .mov (.t p1), none, 0⟩, ⟨some p9, .bin .geq (.t p7) (.t p8), none, 3⟩, ⟨some p10, .mov (.t p9), none, 7⟩, ⟨some p11, .mov (.t p0), some (p10, true), 15⟩, ⟨some p12, .mov (.t p2), some (p10, true), 15⟩, ⟨some p13, .bin .leq (.t p11) (.t p12), some (p10, true), 63⟩, ⟨some p14, .pick (.t p10) (.t p13) (.c (.bool false)), none, 127⟩, ⟨some p6, .mov (.t p14), none, 255⟩] false)
 .ret)) }
theorem ok77 : cFn Try.prog 77 = some ef77 := by kernel_rfl
/-- seesawref06.Ints -/
def ef91 : EFn := { id := 91, N := 26, res := [(p4, none)], code := (.seq (.region [⟨some p4, .mov (.c (.bool false)), none, 0⟩] false)
 (.seq (.seq (.region [⟨some p6, .mov (.t p0), none, 0⟩, ⟨some p7, .len false (.t p6), none, 1⟩, ⟨some p8, .mov (.t p1), none, 0⟩, ⟨some p9, .len false (.t p8), none, 4⟩, ⟨some p10, .bin .neq (.t p7) (.t p9), none, 15⟩] false)
 (.cond (.t p10) (.seq (.region [⟨some p4, .mov (.c (.bool false)), none, 0⟩] false)
 .ret) .skip))
 (.seq (.seq (.region [⟨some p5, .mov (.c (.int .i64 (.ofNat 0))), none, 0⟩] false)
 (.block 0 (.loop (.seq (.seq (.region [⟨some p11, .mov (.t p5), none, 0⟩, ⟨some p12, .mov (.t p0), none, 0⟩, ⟨some p13, .len false (.t p12), none, 2⟩, ⟨some p14, .bin .lss (.t p11) (.t p13), none, 7⟩] false)
 (.cond (.t p14) .skip (.exit 0)))
 (.seq (.block 1 (.seq (.region [⟨some p17, .mov (.t p0), none, 0⟩, ⟨some p18, .mov (.t p5), none, 0⟩, ⟨some p19, .iaddrS 1 (.t p17) (.t p18), none, 3⟩, ⟨some p20, .load1 (.t p19), none, 7⟩, ⟨some p21, .mov (.t p1), none, 0⟩, ⟨some p22, .mov (.t p5), none, 0⟩, ⟨some p23, .iaddrS 1 (.t p21) (.t p22), none, 48⟩, ⟨some p24, .load1 (.t p23), none, 112⟩, ⟨some p25, .bin .neq (.t p20) (.t p24), none, 255⟩] true)
 (.cond (.t p25) (.seq (.region [⟨some p4, .mov (.c (.bool false)), none, 0⟩] false)
 .ret) .skip)))
 (.region [⟨some p15, .mov (.t p5), none, 0⟩, ⟨some p16, .bin .add (.t p15) (.c (.int .i64 (.ofNat 1))), none, 1⟩, ⟨some p5, .mov (.t p16), none, 3⟩] false))))))
 (.seq (.region [⟨some p4, .mov (.c (.bool true)), none, 0⟩] false)
 .ret)))) }
theorem ok91 : cFn Try.prog 91 = some ef91 := by kernel_rfl
/-- seesawref05.Same -/
def ef92 : EFn := { id := 92, N := 71, res := [(p4, none)], code := (.seq (.region [⟨some p4, .mov (.c (.bool false)), none, 0⟩] false)
 (.seq (.seq (.region [⟨some p8, .mov (.t p0), none, 0⟩, ⟨some p9, .len false (.t p8), none, 1⟩, ⟨some p10, .mov (.t p1), none, 0⟩, ⟨some p11, .len false (.t p10), none, 4⟩, ⟨some p12, .bin .neq (.t p9) (.t p11), none, 15⟩] false)
 (.cond (.t p12) (.seq (.region [⟨some p4, .mov (.c (.bool false)), none, 0⟩] false)
 .ret) .skip))
 (.seq (.seq (.region [⟨some p5, .mov (.c (.int .i64 (.ofNat 0))), none, 0⟩] false)
 (.block 0 (.loop (.seq (.seq (.region [⟨some p13, .mov (.t p5), none, 0⟩, ⟨some p14, .mov (.t p0), none, 0⟩, ⟨some p15, .len false (.t p14), none, 2⟩, ⟨some p16, .bin .lss (.t p13) (.t p15), none, 7⟩] false)
 (.cond (.t p16) .skip (.exit 0)))
 (.seq (.block 1 (.seq (.region [⟨some p19, .mov (.t p0), none, 0⟩, ⟨some p20, .mov (.t p5), none, 0⟩, ⟨some p21, .iaddrS 10 (.t p19) (.t p20), none, 3⟩, ⟨some p22, .loadN 10 (.t p21), none, 7⟩, ⟨some p23, .mov (.t p1), none, 0⟩, ⟨some p24, .mov (.t p5), none, 0⟩, ⟨some p25, .iaddrS 10 (.t p23) (.t p24), none, 48⟩, ⟨some p26, .loadN 10 (.t p25), none, 112⟩, ⟨some p6, .alloc [(.int .u8 (.ofNat 0)), (.int .i64 (.ofNat 0)), (.int .u8 (.ofNat 0)), (.int .i64 (.ofNat 0)), .nils, (.int .u8 (.ofNat 0)), (.int .i64 (.ofNat 0)), .nils, .nils, .nils], none, 0⟩, ⟨some p7, .alloc [(.int .u8 (.ofNat 0)), (.int .i64 (.ofNat 0)), (.int .u8 (.ofNat 0)), (.int .i64 (.ofNat 0)), .nils, (.int .u8 (.ofNat 0)), (.int .i64 (.ofNat 0)), .nils, .nils, .nils], none, 0⟩, ⟨none, .store 10 (.t p6) (.t p22), none, 783⟩, ⟨none, .store 10 (.t p7) (.t p26), none, 2047⟩] true)
 (.seq (.region [⟨some p27, .faddr 0 (.t p6), none, 0⟩, ⟨some p28, .load1 (.t p27), none, 1⟩, ⟨some p29, .faddr 0 (.t p7), none, 0⟩, ⟨some p30, .load1 (.t p29), none, 4⟩, ⟨some p31, .bin .neq (.t p28) (.t p30), none, 15⟩, ⟨some p32, .mov (.t p31), none, 31⟩, ⟨some p33, .faddr 1 (.t p6), some (p32, false), 63⟩, ⟨some p34, .load1 (.t p33), some (p32, false), 127⟩, ⟨some p35, .faddr 1 (.t p7), some (p32, false), 63⟩, ⟨some p36, .load1 (.t p35), some (p32, false), 319⟩, ⟨some p37, .bin .neq (.t p34) (.t p36), some (p32, false), 1023⟩, ⟨some p38, .pick (.t p32) (.c (.bool true)) (.t p37), none, 2047⟩, ⟨some p39, .mov (.t p38), none, 4095⟩, ⟨some p40, .faddr 2 (.t p6), some (p39, false), 8191⟩, ⟨some p41, .loadN 3 (.t p40), some (p39, false), 16383⟩, ⟨some p42, .faddr 2 (.t p7), some (p39, false), 8191⟩, ⟨some p43, .loadN 3 (.t p42), some (p39, false), 40959⟩, ⟨some p44, .call (.c (.fn 121 [] [])) [(.t p41), (.t p43)], some (p39, false), 131071⟩, ⟨some p45, .un .not (.t p44), some (p39, false), 262143⟩, ⟨some p46, .pick (.t p39) (.c (.bool true)) (.t p45), none, 524287⟩, ⟨some p47, .mov (.t p46), none, 1048575⟩, ⟨some p48, .faddr 5 (.t p6), some (p47, false), 2097151⟩, ⟨some p49, .loadN 3 (.t p48), some (p47, false), 4194303⟩, ⟨some p50, .faddr 5 (.t p7), some (p47, false), 2097151⟩, ⟨some p51, .loadN 3 (.t p50), some (p47, false), 10485759⟩, ⟨some p52, .call (.c (.fn 121 [] [])) [(.t p49), (.t p51)], some (p47, false), 33554431⟩, ⟨some p53, .un .not (.t p52), some (p47, false), 67108863⟩, ⟨some p54, .pick (.t p47) (.c (.bool true)) (.t p53), none, 134217727⟩, ⟨some p55, .mov (.t p54), none, 268435455⟩, ⟨some p56, .faddr 8 (.t p6), some (p55, false), 536870911⟩, ⟨some p57, .load1 (.t p56), some (p55, false), 1073741823⟩, ⟨some p58, .faddr 8 (.t p7), some (p55, false), 536870911⟩, ⟨some p59, .load1 (.t p58), some (p55, false), 2684354559⟩, ⟨some p60, .call (.c (.fn 92 [] [])) [(.t p57), (.t p59)], some (p55, false), 8589934591⟩, ⟨some p61, .un .not (.t p60), some (p55, false), 17179869183⟩, ⟨some p62, .pick (.t p55) (.c (.bool true)) (.t p61), none, 34359738367⟩, ⟨some p63, .mov (.t p62), none, 68719476735⟩, ⟨some p64, .faddr 9 (.t p6), some (p63, false), 137438953471⟩, ⟨some p65, .load1 (.t p64), some (p63, false), 274877906943⟩, ⟨some p66, .faddr 9 (.t p7), some (p63, false), 137438953471⟩, ⟨some p67, .load1 (.t p66), some (p63, false), 687194767359⟩, ⟨some p68, .call (.c (.fn 92 [] [])) [(.t p65), (.t p67)], some (p63, false), 2199023255551⟩, ⟨some p69, .un .not (.t p68), some (p63, false), 4398046511103⟩, ⟨some p70, .pick (.t p63) (.c (.bool true)) (.t p69), none, 8796093022207⟩] false)
 (.cond (.t p70) (.seq (.region [⟨some p4, .mov (.c (.bool false)), none, 0⟩] false)
 .ret) .skip))))
 (.region [⟨some p17, .mov (.t p5), none, 0⟩, ⟨some p18, .bin .add (.t p17) (.c (.int .i64 (.ofNat 1))), none, 1⟩, ⟨some p5, .mov (.t p18), none, 3⟩] false))))))
 (.seq (.region [⟨some p4, .mov (.c (.bool true)), none, 0⟩] false)
 .ret)))) }
theorem ok92 : cFn Try.prog 92 = some ef92 := by kernel_rfl
/-- bytes.NewWriter -/
def ef94 : EFn := { id := 94, N := 13, res := [(p2, none), (p3, none)], code := (.seq (.region [⟨some p2, .mov (.c .nilp), none, 0⟩, ⟨some p3, .mov (.c (.int .i64 (.ofNat 0))), none, 1⟩] false)
 (.seq (.seq (.region [⟨some p4, .mov (.t p0), none, 0⟩, ⟨some p5, .bin .lss (.t p4) (.c (.int .i64 (.ofNat 0))), none, 1⟩, ⟨some p6, .mov (.t p5), none, 3⟩, ⟨some p7, .mov (.t p0), some (p6, false), 7⟩, ⟨some p8, .bin .gtr (.t p7) (.c (.int .i64 (.ofNat 16777216))), some (p6, false), 15⟩, ⟨some p9, .pick (.t p6) (.c (.bool true)) (.t p8), none, 31⟩] false)
 (.cond (.t p9) (.seq (.region [⟨some p2, .mov (.c .nilp), none, 0⟩, ⟨some p3, .mov (.c (.int .i64 (.ofNat 1))), none, 1⟩] false)
 .ret) .skip))
 (.seq (.region [⟨some p10, .mov (.t p0), none, 0⟩, ⟨some p11, .build [(.int .i64 (.ofNat 0)), .nils] [(0, 1, (.t p10))], none, 1⟩, ⟨some p12, .box (.t p11), none, 3⟩, ⟨some p2, .mov (.t p12), none, 7⟩, ⟨some p3, .mov (.c (.int .i64 (.ofNat 0))), none, 15⟩] false)
 .ret))) }
theorem ok94 : cFn Try.prog 94 = some ef94 := by kernel_rfl
/-- (pack.writer).num -/
def ef95 : EFn := { id := 95, N := 18, res := [], code := (.seq (.region [⟨some p2, .box (.t p0), none, 0⟩] false)
 (.seq (.region [⟨some p6, .mov (.t p1), none, 0⟩, ⟨some p7, .len false (.t p6), none, 1⟩, ⟨some p8, .mov (.c (.int .i64 (.ofNat 0))), none, 0⟩] false)
 (.block 0 (.loop (.seq (.region [⟨some p9, .bin .lss (.t p8) (.t p7), none, 0⟩] false)
 (.seq (.cond (.t p9) .skip (.exit 0))
 (.seq (.block 1 (.seq (.region [⟨some p10, .iaddrS 1 (.t p6) (.t p8), none, 0⟩, ⟨some p11, .load1 (.t p10), none, 1⟩, ⟨some p5, .mov (.t p11), none, 3⟩] false)
 (.region [⟨some p12, .faddr 0 (.t p2), none, 0⟩, ⟨some p13, .load1 (.t p12), none, 1⟩, ⟨some p14, .mov (.t p5), none, 0⟩, ⟨some p15, .conv .u64 (.t p14), none, 4⟩, ⟨some p16, .call (.c (.fn 122 [] [])) [(.t p13), (.t p15)], none, 15⟩] false)))
 (.region [⟨some p17, .bin .add (.t p8) (.c (.int .i64 (.ofNat 1))), none, 0⟩, ⟨some p8, .mov (.t p17), none, 1⟩] false)))))))) }
theorem ok95 : cFn Try.prog 95 = some ef95 := by kernel_rfl
/-- (*bytes.Writer).Int -/
def ef96 : EFn := { id := 96, N := 9, res := [(p4, none)], code := (.seq (.region [⟨some p4, .mov (.c (.int .i64 (.ofNat 0))), none, 0⟩] false)
 (.seq (.region [⟨some p5, .mov (.t p0), none, 0⟩, ⟨some p6, .mov (.t p1), none, 0⟩, ⟨some p7, .call (.c (.fn 123 [] [])) [(.t p6)], none, 2⟩, ⟨some p8, .call (.c (.fn 122 [] [])) [(.t p5), (.t p7)], none, 7⟩, ⟨some p4, .mov (.t p8), none, 15⟩] false)
 .ret)) }
theorem ok96 : cFn Try.prog 96 = some ef96 := by kernel_rfl
/-- (pack.writer).block -/
def ef97 : EFn := { id := 97, N := 65, res := [], code := (.seq (.region [⟨some p2, .box (.t p0), none, 0⟩] false)
 (.seq (.region [⟨some p8, .loadN 1 (.t p2), none, 0⟩, ⟨some p9, .mov (.t p1), none, 0⟩, ⟨some p10, .len false (.t p9), none, 2⟩, ⟨some p11, .buildSl [(.int .i64 (.ofNat 0))] 1 [(0, 1, (.t p10))], none, 6⟩, ⟨some p12, .call (.c (.fn 95 [] [])) [(.t p8), (.t p11)], none, 15⟩] false)
 (.seq (.region [⟨some p13, .mov (.t p1), none, 0⟩, ⟨some p14, .len false (.t p13), none, 1⟩, ⟨some p15, .mov (.c (.int .i64 (.ofNat 0))), none, 0⟩] false)
 (.block 0 (.loop (.seq (.region [⟨some p16, .bin .lss (.t p15) (.t p14), none, 0⟩] false)
 (.seq (.cond (.t p16) .skip (.exit 0))
 (.seq (.block 1 (.seq (.region [⟨some p17, .iaddrS 10 (.t p13) (.t p15), none, 0⟩, ⟨some p18, .loadN 10 (.t p17), none, 1⟩, ⟨some p5, .alloc [(.int .u8 (.ofNat 0)), (.int .i64 (.ofNat 0)), (.int .u8 (.ofNat 0)), (.int .i64 (.ofNat 0)), .nils, (.int .u8 (.ofNat 0)), (.int .i64 (.ofNat 0)), .nils, .nils, .nils], none, 0⟩, ⟨none, .store 10 (.t p5) (.t p18), none, 7⟩] false)
 (.seq (.region [⟨some p19, .loadN 1 (.t p2), none, 0⟩, ⟨some p20, .faddr 0 (.t p5), none, 0⟩, ⟨some p21, .load1 (.t p20), none, 2⟩, ⟨some p22, .conv .i64 (.t p21), none, 6⟩, ⟨some p23, .buildSl [(.int .i64 (.ofNat 0))] 1 [(0, 1, (.t p22))], none, 14⟩, ⟨some p24, .call (.c (.fn 95 [] [])) [(.t p19), (.t p23)], none, 31⟩] false)
 (.seq (.region [⟨some p25, .faddr 0 (.t p5), none, 0⟩, ⟨some p26, .load1 (.t p25), none, 1⟩, ⟨some p27, .call (.c (.fn 124 [] [])) [(.t p26)], none, 3⟩, ⟨some p28, .rng (.t p27), none, 7⟩] false)
 (.block 2 (.loop (.seq (.region [⟨some p29, .nxt (.t p28), none, 0⟩, ⟨some p30, .ext 0 (.t p29), none, 1⟩] false)
 (.seq (.cond (.t p30) .skip (.exit 2))
 (.block 3 (.seq (.region [⟨some p31, .ext 2 (.t p29), none, 0⟩, ⟨some p7, .mov (.t p31), none, 1⟩] false)
 (.seq (.region [⟨some p32, .mov (.t p7), none, 0⟩] false)
 (.block 4 (.seq (.region [⟨some p34, .bin .eql (.t p32) (.c (.int .i32 (.ofNat 116))), none, 0⟩, ⟨some p33, .mov (.t p34), none, 1⟩] false)
 (.cond (.t p33) (.region [⟨some p35, .loadN 1 (.t p2), none, 0⟩, ⟨some p36, .faddr 1 (.t p5), none, 0⟩, ⟨some p37, .load1 (.t p36), none, 2⟩, ⟨some p38, .buildSl [(.int .i64 (.ofNat 0))] 1 [(0, 1, (.t p37))], none, 6⟩, ⟨some p39, .call (.c (.fn 95 [] [])) [(.t p35), (.t p38)], none, 15⟩] false) (.seq (.region [⟨some p41, .bin .eql (.t p32) (.c (.int .i32 (.ofNat 97))), none, 0⟩, ⟨some p40, .mov (.t p41), none, 1⟩] false)
 (.cond (.t p40) (.region [⟨some p42, .loadN 1 (.t p2), none, 0⟩, ⟨some p43, .faddr 2 (.t p5), none, 0⟩, ⟨some p44, .loadN 3 (.t p43), none, 2⟩, ⟨some p45, .call (.c (.fn 125 [] [])) [(.t p42), (.t p44)], none, 7⟩] false) (.seq (.region [⟨some p47, .bin .eql (.t p32) (.c (.int .i32 (.ofNat 98))), none, 0⟩, ⟨some p46, .mov (.t p47), none, 1⟩] false)
 (.cond (.t p46) (.region [⟨some p48, .loadN 1 (.t p2), none, 0⟩, ⟨some p49, .faddr 5 (.t p5), none, 0⟩, ⟨some p50, .loadN 3 (.t p49), none, 2⟩, ⟨some p51, .call (.c (.fn 125 [] [])) [(.t p48), (.t p50)], none, 7⟩] false) (.seq (.region [⟨some p53, .bin .eql (.t p32) (.c (.int .i32 (.ofNat 111))), none, 0⟩, ⟨some p52, .mov (.t p53), none, 1⟩] false)
 (.cond (.t p52) (.region [⟨some p54, .loadN 1 (.t p2), none, 0⟩, ⟨some p55, .faddr 8 (.t p5), none, 0⟩, ⟨some p56, .load1 (.t p55), none, 2⟩, ⟨some p57, .call (.c (.fn 97 [] [])) [(.t p54), (.t p56)], none, 7⟩] false) (.seq (.region [⟨some p59, .bin .eql (.t p32) (.c (.int .i32 (.ofNat 101))), none, 0⟩, ⟨some p58, .mov (.t p59), none, 1⟩] false)
 (.cond (.t p58) (.region [⟨some p60, .loadN 1 (.t p2), none, 0⟩, ⟨some p61, .faddr 9 (.t p5), none, 0⟩, ⟨some p62, .load1 (.t p61), none, 2⟩, ⟨some p63, .call (.c (.fn 97 [] [])) [(.t p60), (.t p62)], none, 7⟩] false) .skip))))))))))))))))))))))
 (.region [⟨some p64, .bin .add (.t p15) (.c (.int .i64 (.ofNat 1))), none, 0⟩, ⟨some p15, .mov (.t p64), none, 1⟩] false))))))))) }
theorem ok97 : cFn Try.prog 97 = some ef97 := by kernel_rfl
/-- (*bytes.Writer).Text -/
def ef98 : EFn := { id := 98, N := 10, res := [(p2, none)], code := (.seq (.region [⟨some p2, .mov (.c (.str [])), none, 0⟩] false)
 (.seq (.seq (.region [⟨some p3, .mov (.t p0), none, 0⟩, ⟨some p4, .eq false .nilP (.t p3) (.c .nilp), none, 1⟩] false)
 (.cond (.t p4) (.seq (.region [⟨some p2, .mov (.c (.str [])), none, 0⟩] false)
 .ret) .skip))
 (.seq (.region [⟨some p5, .mov (.t p0), none, 0⟩, ⟨some p6, .nilck (.t p5), none, 1⟩, ⟨some p7, .faddr 1 (.t p6), none, 3⟩, ⟨some p8, .load1 (.t p7), none, 7⟩, ⟨some p9, .b2s (.t p8), none, 15⟩, ⟨some p2, .mov (.t p9), none, 31⟩] false)
 .ret))) }
theorem ok98 : cFn Try.prog 98 = some ef98 := by kernel_rfl
/-- bytes.NewReader -/
def ef99 : EFn := { id := 99, N := 10, res := [(p2, none), (p3, none)], code := (.seq (.region [⟨some p2, .mov (.c .nilp), none, 0⟩, ⟨some p3, .mov (.c (.int .i64 (.ofNat 0))), none, 1⟩] false)
 (.seq (.seq (.region [⟨some p4, .mov (.t p0), none, 0⟩, ⟨some p5, .len true (.t p4), none, 1⟩, ⟨some p6, .bin .gtr (.t p5) (.c (.int .i64 (.ofNat 16777216))), none, 3⟩] false)
 (.cond (.t p6) (.seq (.region [⟨some p2, .mov (.c .nilp), none, 0⟩, ⟨some p3, .mov (.c (.int .i64 (.ofNat 40))), none, 1⟩] false)
 .ret) .skip))
 (.seq (.region [⟨some p7, .mov (.t p0), none, 0⟩, ⟨some p8, .build [(.str []), (.int .i64 (.ofNat 0)), (.int .i64 (.ofNat 0))] [(0, 1, (.t p7))], none, 1⟩, ⟨some p9, .box (.t p8), none, 3⟩, ⟨some p2, .mov (.t p9), none, 7⟩, ⟨some p3, .mov (.c (.int .i64 (.ofNat 0))), none, 15⟩] false)
 .ret))) }
theorem ok99 : cFn Try.prog 99 = some ef99 := by kernel_rfl
/-- (pack.reader).setup -/
def ef100 : EFn := { id := 100, N := 61, res := [(p2, some (some 5))], code := (.seq (.region [⟨some p1, .box (.t p0), none, 0⟩, ⟨some p2, .alloc [(.int .i64 (.ofNat 0)), (.int .i64 (.ofNat 0)), (.int .i64 (.ofNat 0)), .nils, .nils], none, 0⟩] false)
 (.seq (.region [⟨some p3, .alloc [(.int .i64 (.ofNat 0)), (.int .i64 (.ofNat 0)), (.int .i64 (.ofNat 0)), .nils, .nils], none, 0⟩] false)
 (.seq (.seq (.region [⟨some p7, .loadN 1 (.t p1), none, 0⟩, ⟨some p8, .call (.c (.fn 126 [] [])) [(.t p7), (.c (.int .i64 (.ofNat 1))), (.c (.int .i64 (.ofNat 32)))], none, 1⟩, ⟨some p9, .mov (.c (.int .i64 (.ofNat 0))), none, 0⟩] false)
 (.block 0 (.loop (.seq (.region [⟨some p10, .bin .lss (.t p9) (.t p8), none, 0⟩] false)
 (.seq (.cond (.t p10) .skip (.exit 0))
 (.seq (.block 1 (.seq (.region [⟨some p12, .faddr 0 (.t p1), none, 0⟩, ⟨some p13, .load1 (.t p12), none, 1⟩, ⟨some p14, .call (.c (.fn 127 [] [])) [(.t p13)], none, 3⟩, ⟨some p11, .mov (.t p14), none, 7⟩, ⟨some p15, .ext 0 (.t p11), none, 15⟩, ⟨some p16, .ext 1 (.t p11), none, 15⟩, ⟨some p4, .mov (.t p15), none, 31⟩, ⟨some p5, .mov (.t p16), none, 127⟩] false)
 (.region [⟨some p17, .faddr 3 (.t p3), none, 0⟩, ⟨some p18, .load1 (.t p17), none, 1⟩, ⟨some p19, .mov (.t p4), none, 0⟩, ⟨some p20, .buildSl [(.int .i64 (.ofNat 0))] 1 [(0, 1, (.t p19))], none, 4⟩, ⟨some p21, .app 1 (.t p18) (.t p20), none, 15⟩, ⟨some p22, .faddr 3 (.t p3), none, 31⟩, ⟨none, .store 1 (.t p22) (.t p21), none, 63⟩] false)))
 (.region [⟨some p23, .bin .add (.t p9) (.c (.int .i64 (.ofNat 1))), none, 0⟩, ⟨some p9, .mov (.t p23), none, 1⟩] false)))))))
 (.seq (.seq (.region [⟨some p24, .loadN 1 (.t p1), none, 0⟩, ⟨some p25, .call (.c (.fn 128 [] [])) [(.t p24)], none, 1⟩] false)
 (.cond (.t p25) (.seq (.region [⟨some p26, .loadN 5 (.t p3), none, 0⟩, ⟨none, .store 5 (.t p2) (.t p26), none, 1⟩] false)
 .ret) .skip))
 (.seq (.region [⟨some p27, .loadN 1 (.t p1), none, 0⟩, ⟨some p28, .faddr 3 (.t p3), none, 0⟩, ⟨some p29, .load1 (.t p28), none, 2⟩, ⟨some p30, .len false (.t p29), none, 6⟩, ⟨some p31, .call (.c (.fn 126 [] [])) [(.t p27), (.c (.int .i64 (.ofNat 1))), (.t p30)], none, 15⟩, ⟨some p32, .loadN 1 (.t p1), none, 0⟩, ⟨some p33, .call (.c (.fn 126 [] [])) [(.t p32), (.c (.int .i64 (.ofNat 0))), (.c (.int .i64 (.ofNat 1099511627776)))], none, 63⟩, ⟨some p34, .loadN 1 (.t p1), none, 0⟩, ⟨some p35, .call (.c (.fn 126 [] [])) [(.t p34), (.c (.int .i64 (.ofNat 1))), (.c (.int .i64 (.ofNat 1000)))], none, 255⟩, ⟨some p36, .faddr 0 (.t p3), none, 31⟩, ⟨none, .store 1 (.t p36) (.t p31), none, 1023⟩, ⟨some p37, .faddr 1 (.t p3), none, 2047⟩, ⟨none, .store 1 (.t p37) (.t p33), none, 4095⟩, ⟨some p38, .faddr 2 (.t p3), none, 8191⟩, ⟨none, .store 1 (.t p38) (.t p35), none, 16383⟩] true)
 (.seq (.seq (.region [⟨some p39, .loadN 1 (.t p1), none, 0⟩, ⟨some p40, .call (.c (.fn 126 [] [])) [(.t p39), (.c (.int .i64 (.ofNat 0))), (.c (.int .i64 (.ofNat 6)))], none, 1⟩, ⟨some p41, .mov (.c (.int .i64 (.ofNat 0))), none, 0⟩] false)
 (.block 2 (.loop (.seq (.region [⟨some p42, .bin .lss (.t p41) (.t p40), none, 0⟩] false)
 (.seq (.cond (.t p42) .skip (.exit 2))
 (.seq (.block 3 (.seq (.region [⟨some p6, .mov (.c .nils), none, 0⟩] false)
 (.seq (.seq (.region [⟨some p43, .loadN 1 (.t p1), none, 0⟩, ⟨some p44, .call (.c (.fn 126 [] [])) [(.t p43), (.c (.int .i64 (.ofNat 0))), (.c (.int .i64 (.ofNat 6)))], none, 1⟩, ⟨some p45, .mov (.c (.int .i64 (.ofNat 0))), none, 0⟩] false)
 (.block 4 (.loop (.seq (.region [⟨some p46, .bin .lss (.t p45) (.t p44), none, 0⟩] false)
 (.seq (.cond (.t p46) .skip (.exit 4))
 (.seq (.block 5 (.region [⟨some p47, .mov (.t p6), none, 0⟩, ⟨some p48, .loadN 1 (.t p1), none, 0⟩, ⟨some p49, .call (.c (.fn 129 [] [])) [(.t p48), (.c (.int .i64 (.ofNat 1)))], none, 2⟩, ⟨some p50, .buildSl [.nils] 1 [(0, 1, (.t p49))], none, 6⟩, ⟨some p51, .app 1 (.t p47) (.t p50), none, 15⟩, ⟨some p6, .mov (.t p51), none, 31⟩] false))
 (.region [⟨some p52, .bin .add (.t p45) (.c (.int .i64 (.ofNat 1))), none, 0⟩, ⟨some p45, .mov (.t p52), none, 1⟩] false)))))))
 (.region [⟨some p53, .faddr 4 (.t p3), none, 0⟩, ⟨some p54, .load1 (.t p53), none, 1⟩, ⟨some p55, .mov (.t p6), none, 0⟩, ⟨some p56, .buildSl [.nils] 1 [(0, 1, (.t p55))], none, 4⟩, ⟨some p57, .app 1 (.t p54) (.t p56), none, 15⟩, ⟨some p58, .faddr 4 (.t p3), none, 31⟩, ⟨none, .store 1 (.t p58) (.t p57), none, 63⟩] false))))
 (.region [⟨some p59, .bin .add (.t p41) (.c (.int .i64 (.ofNat 1))), none, 0⟩, ⟨some p41, .mov (.t p59), none, 1⟩] false)))))))
 (.seq (.region [⟨some p60, .loadN 5 (.t p3), none, 0⟩, ⟨none, .store 5 (.t p2) (.t p60), none, 1⟩] false)
 .ret))))))) }
theorem ok100 : cFn Try.prog 100 = some ef100 := by kernel_rfl
/-- (*bytes.Reader).End -/
def ef101 : EFn := { id := 101, N := 11, res := [(p2, none)], code := (.seq (.region [⟨some p2, .mov (.c (.int .i64 (.ofNat 0))), none, 0⟩] false)
 (.seq (.region [⟨some p6, .mov (.t p0), none, 0⟩, ⟨some p7, .call (.c (.fn 130 [] [])) [(.t p6), (.c (.fn 131 [] []))], none, 1⟩, ⟨some p5, .mov (.t p7), none, 3⟩, ⟨some p8, .ext 0 (.t p5), none, 7⟩, ⟨some p9, .ext 1 (.t p5), none, 7⟩, ⟨some p3, .mov (.t p8), none, 15⟩, ⟨some p4, .mov (.t p9), none, 63⟩] false)
 (.seq (.region [⟨some p10, .mov (.t p4), none, 0⟩, ⟨some p2, .mov (.t p10), none, 1⟩] false)
 .ret))) }
theorem ok101 : cFn Try.prog 101 = some ef101 := by kernel_rfl
/-- (*bytes.Reader).Wrong -/
def ef102 : EFn := { id := 102, N := 21, res := [(p2, none), (p3, none)], code := (.seq (.region [⟨some p2, .mov (.c (.int .i64 (.ofNat 0))), none, 0⟩, ⟨some p3, .mov (.c (.int .i64 (.ofNat 0))), none, 1⟩] false)
 (.seq (.block 0 (.seq (.region [⟨some p5, .mov (.t p0), none, 0⟩, ⟨some p6, .eq false .nilP (.t p5) (.c .nilp), none, 1⟩, ⟨some p4, .mov (.t p6), none, 3⟩] false)
 (.cond (.t p4) (.seq (.region [⟨some p2, .mov (.c (.int .i64 (.ofNat 0))), none, 0⟩, ⟨some p3, .mov (.c (.int .i64 (.ofNat 2))), none, 1⟩] false)
 .ret) (.seq (.region [⟨some p8, .mov (.t p0), none, 0⟩, ⟨some p9, .nilck (.t p8), none, 1⟩, ⟨some p10, .faddr 2 (.t p9), none, 3⟩, ⟨some p11, .load1 (.t p10), none, 7⟩, ⟨some p12, .bin .eql (.t p11) (.c (.int .i64 (.ofNat 0))), none, 15⟩, ⟨some p7, .mov (.t p12), none, 31⟩] false)
 (.cond (.t p7) (.seq (.region [⟨some p2, .mov (.c (.int .i64 (.ofNat 0))), none, 0⟩, ⟨some p3, .mov (.c (.int .i64 (.ofNat 0))), none, 1⟩] false)
 .ret) .skip)))))
 (.seq (.region [⟨some p13, .mov (.t p0), none, 0⟩, ⟨some p14, .nilck (.t p13), none, 1⟩, ⟨some p15, .faddr 1 (.t p14), none, 3⟩, ⟨some p16, .load1 (.t p15), none, 7⟩, ⟨some p17, .mov (.t p0), none, 0⟩, ⟨some p18, .nilck (.t p17), none, 16⟩, ⟨some p19, .faddr 2 (.t p18), none, 48⟩, ⟨some p20, .load1 (.t p19), none, 112⟩, ⟨some p2, .mov (.t p16), none, 15⟩, ⟨some p3, .mov (.t p20), none, 511⟩] true)
 .ret))) }
theorem ok102 : cFn Try.prog 102 = some ef102 := by kernel_rfl
/-- code.nodes -/
def ef107 : EFn := { id := 107, N := 8, res := [(p2, none)], code := (.seq (.region [⟨some p1, .box (.t p0), none, 0⟩, ⟨some p2, .mov (.c (.int .i64 (.ofNat 0))), none, 0⟩] false)
 (.seq (.seq (.region [⟨some p3, .faddr 0 (.t p1), none, 0⟩, ⟨some p4, .load1 (.t p3), none, 1⟩, ⟨some p5, .bin .eql (.t p4) (.c (.int .u8 (.ofNat 0))), none, 3⟩] false)
 (.cond (.t p5) (.seq (.region [⟨some p2, .mov (.c (.int .i64 (.ofNat 0))), none, 0⟩] false)
 .ret) .skip))
 (.seq (.region [⟨some p6, .loadN 3 (.t p1), none, 0⟩, ⟨some p7, .call (.c (.fn 134 [] [])) [(.t p6)], none, 1⟩, ⟨some p2, .mov (.t p7), none, 3⟩] false)
 .ret))) }
theorem ok107 : cFn Try.prog 107 = some ef107 := by kernel_rfl
/-- code.all$1 -/
def ef108 : EFn := { id := 108, N := 6, res := [], code := (.region [⟨some p3, .load1 (.t p1), none, 0⟩, ⟨some p4, .mov (.t p0), none, 0⟩, ⟨some p5, .call (.c (.fn 109 [] [])) [(.t p3), (.t p4)], none, 3⟩] false) }
theorem ok108 : cFn Try.prog 108 = some ef108 := by kernel_rfl
/-- code.each -/
def ef109 : EFn := { id := 109, N := 32, res := [(p4, none)], code := (.seq (.region [⟨some p4, .mov (.c (.bool false)), none, 0⟩] false)
 (.seq (.seq (.region [⟨some p7, .mov (.t p0), none, 0⟩, ⟨some p8, .len false (.t p7), none, 1⟩, ⟨some p9, .mov (.c (.int .i64 (.ofNat 0))), none, 0⟩] false)
 (.block 0 (.loop (.seq (.region [⟨some p10, .bin .lss (.t p9) (.t p8), none, 0⟩] false)
 (.seq (.cond (.t p10) .skip (.exit 0))
 (.seq (.block 1 (.seq (.region [⟨some p11, .iaddrS 10 (.t p7) (.t p9), none, 0⟩, ⟨some p12, .loadN 10 (.t p11), none, 1⟩, ⟨some p6, .alloc [(.int .u8 (.ofNat 0)), (.int .i64 (.ofNat 0)), (.int .u8 (.ofNat 0)), (.int .i64 (.ofNat 0)), .nils, (.int .u8 (.ofNat 0)), (.int .i64 (.ofNat 0)), .nils, .nils, .nils], none, 0⟩, ⟨none, .store 10 (.t p6) (.t p12), none, 7⟩] false)
 (.seq (.region [⟨some p13, .mov (.t p1), none, 0⟩, ⟨some p14, .loadN 10 (.t p6), none, 0⟩, ⟨some p15, .call (.t p13) [(.t p14)], none, 3⟩, ⟨some p16, .un .not (.t p15), none, 7⟩, ⟨some p17, .mov (.t p16), none, 15⟩, ⟨some p18, .faddr 8 (.t p6), some (p17, false), 31⟩, ⟨some p19, .load1 (.t p18), some (p17, false), 63⟩, ⟨some p20, .mov (.t p1), some (p17, false), 31⟩, ⟨some p21, .call (.c (.fn 109 [] [])) [(.t p19), (.t p20)], some (p17, false), 255⟩, ⟨some p22, .un .not (.t p21), some (p17, false), 511⟩, ⟨some p23, .pick (.t p17) (.c (.bool true)) (.t p22), none, 1023⟩, ⟨some p24, .mov (.t p23), none, 2047⟩, ⟨some p25, .faddr 9 (.t p6), some (p24, false), 4095⟩, ⟨some p26, .load1 (.t p25), some (p24, false), 8191⟩, ⟨some p27, .mov (.t p1), some (p24, false), 4095⟩, ⟨some p28, .call (.c (.fn 109 [] [])) [(.t p26), (.t p27)], some (p24, false), 32767⟩, ⟨some p29, .un .not (.t p28), some (p24, false), 65535⟩, ⟨some p30, .pick (.t p24) (.c (.bool true)) (.t p29), none, 131071⟩] false)
 (.cond (.t p30) (.seq (.region [⟨some p4, .mov (.c (.bool false)), none, 0⟩] false)
 .ret) .skip))))
 (.region [⟨some p31, .bin .add (.t p9) (.c (.int .i64 (.ofNat 1))), none, 0⟩, ⟨some p9, .mov (.t p31), none, 1⟩] false)))))))
 (.seq (.region [⟨some p4, .mov (.c (.bool true)), none, 0⟩] false)
 .ret))) }
theorem ok109 : cFn Try.prog 109 = some ef109 := by kernel_rfl
/-- code.of -/
def ef110 : EFn := { id := 110, N := 20, res := [(p2, some (some 6))], code := (.seq (.region [⟨some p2, .alloc [(.bool false), (.bool false), (.bool false), (.bool false), (.bool false), (.bool false)], none, 0⟩] false)
 (.seq (.region [⟨some p4, .build [(.bool false), (.bool false), (.bool false), (.bool false), (.bool false), (.bool false)] [(0, 1, (.c (.bool true))), (1, 1, (.c (.bool true))), (2, 1, (.c (.bool true)))], none, 0⟩, ⟨some p5, .build [(.bool false), (.bool false), (.bool false), (.bool false), (.bool false), (.bool false)] [(0, 1, (.c (.bool true))), (1, 1, (.c (.bool true))), (2, 1, (.c (.bool true)))], none, 0⟩, ⟨some p6, .build [(.bool false), (.bool false), (.bool false), (.bool false), (.bool false), (.bool false)] [(0, 1, (.c (.bool true))), (2, 1, (.c (.bool true))), (3, 1, (.c (.bool true)))], none, 0⟩, ⟨some p7, .build [(.bool false), (.bool false), (.bool false), (.bool false), (.bool false), (.bool false)] [(0, 1, (.c (.bool true))), (2, 1, (.c (.bool true))), (4, 1, (.c (.bool true))), (5, 1, (.c (.bool true)))], none, 0⟩, ⟨some p8, .build [(.bool false), (.bool false), (.bool false), (.bool false), (.bool false), (.bool false)] [(0, 1, (.c (.bool true))), (2, 1, (.c (.bool true))), (4, 1, (.c (.bool true)))], none, 0⟩, ⟨some p9, .build [(.bool false), (.bool false), (.bool false), (.bool false), (.bool false), (.bool false)] [(0, 1, (.c (.bool true)))], none, 0⟩, ⟨some p10, .build [(.bool false), (.bool false), (.bool false), (.bool false), (.bool false), (.bool false)] [(0, 1, (.c (.bool true))), (4, 1, (.c (.bool true))), (5, 1, (.c (.bool true)))], none, 0⟩, ⟨some p11, .build [(.bool false), (.bool false), (.bool false), (.bool false), (.bool false), (.bool false)] [(0, 1, (.c (.bool true))), (2, 1, (.c (.bool true)))], none, 0⟩, ⟨some p12, .build [(.bool false), (.bool false), (.bool false), (.bool false), (.bool false), (.bool false), (.bool false), (.bool false), (.bool false), (.bool false), (.bool false), (.bool false), (.bool false), (.bool false), (.bool false), (.bool false), (.bool false), (.bool false), (.bool false), (.bool false), (.bool false), (.bool false), (.bool false), (.bool false), (.bool false), (.bool false), (.bool false), (.bool false), (.bool false), (.bool false), (.bool false), (.bool false), (.bool false), (.bool false), (.bool false), (.bool false), (.bool false), (.bool false), (.bool false), (.bool false), (.bool false), (.bool false), (.bool false), (.bool false), (.bool false), (.bool false), (.bool false), (.bool false), (.bool false), (.bool false), (.bool false), (.bool false), (.bool false), (.bool false)] [(6, 6, (.t p4)), (12, 6, (.t p5)), (18, 6, (.t p6)), (24, 6, (.t p7)), (30, 6, (.t p8)), (36, 6, (.t p9)), (42, 6, (.t p10)), (48, 6, (.t p11))], none, 255⟩, ⟨some p3, .alloc [(.bool false), (.bool false), (.bool false), (.bool false), (.bool false), (.bool false), (.bool false), (.bool false), (.bool false), (.bool false), (.bool false), (.bool false), (.bool false), (.bool false), (.bool false), (.bool false), (.bool false), (.bool false), (.bool false), (.bool false), (.bool false), (.bool false), (.bool false), (.bool false), (.bool false), (.bool false), (.bool false), (.bool false), (.bool false), (.bool false), (.bool false), (.bool false), (.bool false), (.bool false), (.bool false), (.bool false), (.bool false), (.bool false), (.bool false), (.bool false), (.bool false), (.bool false), (.bool false), (.bool false), (.bool false), (.bool false), (.bool false), (.bool false), (.bool false), (.bool false), (.bool false), (.bool false), (.bool false), (.bool false)], none, 0⟩, ⟨none, .store 54 (.t p3) (.t p12), none, 1023⟩] false)
 (.seq (.seq (.region [⟨some p13, .mov (.t p0), none, 0⟩, ⟨some p14, .conv .i64 (.t p13), none, 1⟩, ⟨some p15, .bin .geq (.t p14) (.c (.int .i64 (.ofNat 9))), none, 3⟩] false)
 (.cond (.t p15) (.seq (.region [⟨some p16, .build [(.bool false), (.bool false), (.bool false), (.bool false), (.bool false), (.bool false)] [], none, 0⟩, ⟨none, .store 6 (.t p2) (.t p16), none, 1⟩] false)
 .ret) .skip))
 (.seq (.region [⟨some p17, .mov (.t p0), none, 0⟩, ⟨some p18, .iaddrA 9 6 (.t p3) (.t p17), none, 1⟩, ⟨some p19, .loadN 6 (.t p18), none, 3⟩, ⟨none, .store 6 (.t p2) (.t p19), none, 7⟩] false)
 .ret)))) }
theorem ok110 : cFn Try.prog 110 = some ef110 := by kernel_rfl
/-- code.shaped$1 -/
def ef111 : EFn := { id := 111, N := 12, res := [(p5, none)], code := (.seq (.region [⟨some p4, .box (.t p1), none, 0⟩, ⟨some p5, .mov (.c (.bool false)), none, 0⟩] false)
 (.seq (.seq (.region [⟨some p6, .mov (.t p0), none, 0⟩] false)
 (.cond (.t p6) (.seq (.region [⟨some p7, .loadN 3 (.t p4), none, 0⟩, ⟨some p8, .load1 (.t p2), none, 0⟩, ⟨some p9, .call (.c (.fn 112 [] [])) [(.t p7), (.t p8)], none, 3⟩, ⟨some p5, .mov (.t p9), none, 7⟩] false)
 .ret) .skip))
 (.seq (.region [⟨some p10, .loadN 3 (.t p4), none, 0⟩, ⟨some p11, .call (.c (.fn 113 [] [])) [(.t p10)], none, 1⟩, ⟨some p5, .mov (.t p11), none, 3⟩] false)
 .ret))) }
theorem ok111 : cFn Try.prog 111 = some ef111 := by kernel_rfl
/-- expr.May -/
def ef112 : EFn := { id := 112, N := 12, res := [(p4, none)], code := (.seq (.region [⟨some p2, .box (.t p0), none, 0⟩, ⟨some p4, .mov (.c (.bool false)), none, 0⟩] false)
 (.seq (.region [⟨some p5, .loadN 3 (.t p2), none, 0⟩, ⟨some p6, .call (.c (.fn 135 [] [])) [(.t p5)], none, 1⟩, ⟨some p7, .mov (.t p6), none, 3⟩, ⟨some p8, .loadN 3 (.t p2), some (p7, true), 7⟩, ⟨some p9, .mov (.t p1), some (p7, true), 7⟩, ⟨some p10, .call (.c (.fn 136 [] [])) [(.t p8), (.t p9)], some (p7, true), 31⟩, ⟨some p11, .pick (.t p7) (.t p10) (.c (.bool false)), none, 63⟩, ⟨some p4, .mov (.t p11), none, 127⟩] false)
 .ret)) }
theorem ok112 : cFn Try.prog 112 = some ef112 := by kernel_rfl
/-- code.none -/
def ef113 : EFn := { id := 113, N := 17, res := [(p2, none)], code := (.seq (.region [⟨some p1, .box (.t p0), none, 0⟩, ⟨some p2, .mov (.c (.bool false)), none, 0⟩] false)
 (.seq (.region [⟨some p3, .faddr 0 (.t p1), none, 0⟩, ⟨some p4, .load1 (.t p3), none, 1⟩, ⟨some p5, .bin .eql (.t p4) (.c (.int .u8 (.ofNat 0))), none, 3⟩, ⟨some p6, .mov (.t p5), none, 7⟩, ⟨some p7, .faddr 1 (.t p1), some (p6, true), 15⟩, ⟨some p8, .load1 (.t p7), some (p6, true), 31⟩, ⟨some p9, .bin .eql (.t p8) (.c (.int .i64 (.ofNat 0))), some (p6, true), 63⟩, ⟨some p10, .pick (.t p6) (.t p9) (.c (.bool false)), none, 127⟩, ⟨some p11, .mov (.t p10), none, 255⟩, ⟨some p12, .faddr 2 (.t p1), some (p11, true), 511⟩, ⟨some p13, .load1 (.t p12), some (p11, true), 1023⟩, ⟨some p14, .len false (.t p13), some (p11, true), 2047⟩, ⟨some p15, .bin .eql (.t p14) (.c (.int .i64 (.ofNat 0))), some (p11, true), 4095⟩, ⟨some p16, .pick (.t p11) (.t p15) (.c (.bool false)), none, 8191⟩, ⟨some p2, .mov (.t p16), none, 16383⟩] false)
 .ret)) }
theorem ok113 : cFn Try.prog 113 = some ef113 := by kernel_rfl
/-- seesawref04.Same -/
def ef121 : EFn := { id := 121, N := 46, res := [(p4, none)], code := (.seq (.region [⟨some p2, .box (.t p0), none, 0⟩, ⟨some p3, .box (.t p1), none, 0⟩, ⟨some p4, .mov (.c (.bool false)), none, 0⟩] false)
 (.seq (.seq (.region [⟨some p6, .faddr 0 (.t p2), none, 0⟩, ⟨some p7, .load1 (.t p6), none, 1⟩, ⟨some p8, .faddr 0 (.t p3), none, 0⟩, ⟨some p9, .load1 (.t p8), none, 4⟩, ⟨some p10, .bin .neq (.t p7) (.t p9), none, 15⟩, ⟨some p11, .mov (.t p10), none, 31⟩, ⟨some p12, .faddr 1 (.t p2), some (p11, false), 63⟩, ⟨some p13, .load1 (.t p12), some (p11, false), 127⟩, ⟨some p14, .faddr 1 (.t p3), some (p11, false), 63⟩, ⟨some p15, .load1 (.t p14), some (p11, false), 319⟩, ⟨some p16, .bin .neq (.t p13) (.t p15), some (p11, false), 1023⟩, ⟨some p17, .pick (.t p11) (.c (.bool true)) (.t p16), none, 2047⟩, ⟨some p18, .mov (.t p17), none, 4095⟩, ⟨some p19, .faddr 2 (.t p2), some (p18, false), 8191⟩, ⟨some p20, .load1 (.t p19), some (p18, false), 16383⟩, ⟨some p21, .len false (.t p20), some (p18, false), 32767⟩, ⟨some p22, .faddr 2 (.t p3), some (p18, false), 8191⟩, ⟨some p23, .load1 (.t p22), some (p18, false), 73727⟩, ⟨some p24, .len false (.t p23), some (p18, false), 204799⟩, ⟨some p25, .bin .neq (.t p21) (.t p24), some (p18, false), 524287⟩, ⟨some p26, .pick (.t p18) (.c (.bool true)) (.t p25), none, 1048575⟩] false)
 (.cond (.t p26) (.seq (.region [⟨some p4, .mov (.c (.bool false)), none, 0⟩] false)
 .ret) .skip))
 (.seq (.seq (.region [⟨some p5, .mov (.c (.int .i64 (.ofNat 0))), none, 0⟩] false)
 (.block 0 (.loop (.seq (.seq (.region [⟨some p27, .mov (.t p5), none, 0⟩, ⟨some p28, .faddr 2 (.t p2), none, 0⟩, ⟨some p29, .load1 (.t p28), none, 2⟩, ⟨some p30, .len false (.t p29), none, 6⟩, ⟨some p31, .bin .lss (.t p27) (.t p30), none, 15⟩] false)
 (.cond (.t p31) .skip (.exit 0)))
 (.seq (.block 1 (.seq (.region [⟨some p34, .faddr 2 (.t p2), none, 0⟩, ⟨some p35, .load1 (.t p34), none, 1⟩, ⟨some p36, .mov (.t p5), none, 0⟩, ⟨some p37, .iaddrS 3 (.t p35) (.t p36), none, 7⟩, ⟨some p38, .loadN 3 (.t p37), none, 15⟩, ⟨some p39, .faddr 2 (.t p3), none, 0⟩, ⟨some p40, .load1 (.t p39), none, 32⟩, ⟨some p41, .mov (.t p5), none, 0⟩, ⟨some p42, .iaddrS 3 (.t p40) (.t p41), none, 224⟩, ⟨some p43, .loadN 3 (.t p42), none, 480⟩, ⟨some p44, .call (.c (.fn 121 [] [])) [(.t p38), (.t p43)], none, 1023⟩, ⟨some p45, .un .not (.t p44), none, 2047⟩] true)
 (.cond (.t p45) (.seq (.region [⟨some p4, .mov (.c (.bool false)), none, 0⟩] false)
 .ret) .skip)))
 (.region [⟨some p32, .mov (.t p5), none, 0⟩, ⟨some p33, .bin .add (.t p32) (.c (.int .i64 (.ofNat 1))), none, 1⟩, ⟨some p5, .mov (.t p33), none, 3⟩] false))))))
 (.seq (.region [⟨some p4, .mov (.c (.bool true)), none, 0⟩] false)
 .ret)))) }
theorem ok121 : cFn Try.prog 121 = some ef121 := by kernel_rfl
/-- (*bytes.Writer).Num -/
def ef122 : EFn := { id := 122, N := 9, res := [(p4, none)], code := (.seq (.region [⟨some p4, .mov (.c (.int .i64 (.ofNat 0))), none, 0⟩] false)
 (.seq (.region [⟨some p5, .mov (.t p0), none, 0⟩, ⟨some p6, .mov (.t p1), none, 0⟩, ⟨some p7, .call (.c (.fn 63 [] [])) [(.t p6)], none, 2⟩, ⟨some p8, .call (.c (.fn 141 [] [])) [(.t p5), (.t p7)], none, 7⟩, ⟨some p4, .mov (.t p8), none, 15⟩] false)
 .ret)) }
theorem ok122 : cFn Try.prog 122 = some ef122 := by kernel_rfl
/-- varint.Zig -/
def ef123 : EFn := { id := 123, N := 10, res := [(p2, none)], code := (.seq (.region [⟨some p2, .mov (.c (.int .u64 (.ofNat 0))), none, 0⟩] false)
 (.seq (.region [⟨some p3, .mov (.t p0), none, 0⟩, ⟨some p4, .conv .u64 (.t p3), none, 1⟩, ⟨some p5, .bin .shl (.t p4) (.c (.int .u64 (.ofNat 1))), none, 3⟩, ⟨some p6, .mov (.t p0), none, 0⟩, ⟨some p7, .bin .shr (.t p6) (.c (.int .u64 (.ofNat 63))), none, 8⟩, ⟨some p8, .conv .u64 (.t p7), none, 24⟩, ⟨some p9, .bin .xor (.t p5) (.t p8), none, 63⟩, ⟨some p2, .mov (.t p9), none, 127⟩] false)
 .ret)) }
theorem ok123 : cFn Try.prog 123 = some ef123 := by kernel_rfl
/-- pack.parts -/
def ef124 : EFn := { id := 124, N := 8, res := [(p2, none)], code := (.seq (.region [⟨some p2, .mov (.c (.str [])), none, 0⟩] false)
 (.seq (.region [⟨some p4, .build [(.str []), (.str []), (.str []), (.str []), (.str []), (.str []), (.str []), (.str []), (.str [])] [(1, 1, (.c (.str [116, 97]))), (2, 1, (.c (.str [116, 97]))), (3, 1, (.c (.str [97, 98]))), (4, 1, (.c (.str [97, 111, 101]))), (5, 1, (.c (.str [97, 111]))), (6, 1, (.c (.str []))), (7, 1, (.c (.str [111, 101]))), (8, 1, (.c (.str [97])))], none, 0⟩, ⟨some p3, .alloc [(.str []), (.str []), (.str []), (.str []), (.str []), (.str []), (.str []), (.str []), (.str [])], none, 0⟩, ⟨none, .store 9 (.t p3) (.t p4), none, 3⟩] false)
 (.seq (.region [⟨some p5, .mov (.t p0), none, 0⟩, ⟨some p6, .iaddrA 9 1 (.t p3) (.t p5), none, 1⟩, ⟨some p7, .load1 (.t p6), none, 3⟩, ⟨some p2, .mov (.t p7), none, 7⟩] false)
 .ret))) }
theorem ok124 : cFn Try.prog 124 = some ef124 := by kernel_rfl
/-- (pack.writer).expr -/
def ef125 : EFn := { id := 125, N := 40, res := [], code := (.seq (.region [⟨some p2, .box (.t p0), none, 0⟩, ⟨some p3, .box (.t p1), none, 0⟩] false)
 (.seq (.region [⟨some p6, .loadN 1 (.t p2), none, 0⟩, ⟨some p7, .faddr 0 (.t p3), none, 0⟩, ⟨some p8, .load1 (.t p7), none, 2⟩, ⟨some p9, .conv .i64 (.t p8), none, 6⟩, ⟨some p10, .buildSl [(.int .i64 (.ofNat 0))] 1 [(0, 1, (.t p9))], none, 14⟩, ⟨some p11, .call (.c (.fn 95 [] [])) [(.t p6), (.t p10)], none, 31⟩] false)
 (.seq (.region [⟨some p12, .faddr 0 (.t p3), none, 0⟩, ⟨some p13, .load1 (.t p12), none, 1⟩] false)
 (.block 0 (.seq (.region [⟨some p26, .bin .eql (.t p13) (.c (.int .u8 (.ofNat 1))), none, 0⟩, ⟨some p25, .mov (.t p26), none, 1⟩] false)
 (.cond (.t p25) (.region [⟨some p27, .faddr 0 (.t p2), none, 0⟩, ⟨some p28, .load1 (.t p27), none, 1⟩, ⟨some p29, .faddr 1 (.t p3), none, 0⟩, ⟨some p30, .load1 (.t p29), none, 4⟩, ⟨some p31, .call (.c (.fn 96 [] [])) [(.t p28), (.t p30)], none, 15⟩] false) (.seq (.seq (.region [⟨some p33, .bin .eql (.t p13) (.c (.int .u8 (.ofNat 2))), none, 0⟩, ⟨some p32, .mov (.t p33), none, 1⟩] false)
 (.cond (.t p32) .skip (.region [⟨some p34, .bin .eql (.t p13) (.c (.int .u8 (.ofNat 3))), none, 0⟩, ⟨some p32, .mov (.t p34), none, 1⟩] false)))
 (.cond (.t p32) (.region [⟨some p35, .loadN 1 (.t p2), none, 0⟩, ⟨some p36, .faddr 1 (.t p3), none, 0⟩, ⟨some p37, .load1 (.t p36), none, 2⟩, ⟨some p38, .buildSl [(.int .i64 (.ofNat 0))] 1 [(0, 1, (.t p37))], none, 6⟩, ⟨some p39, .call (.c (.fn 95 [] [])) [(.t p35), (.t p38)], none, 15⟩] false) (.seq (.region [⟨some p14, .faddr 2 (.t p3), none, 0⟩, ⟨some p15, .load1 (.t p14), none, 1⟩, ⟨some p16, .len false (.t p15), none, 3⟩, ⟨some p17, .mov (.c (.int .i64 (.ofNat 0))), none, 0⟩] false)
 (.block 1 (.loop (.seq (.region [⟨some p18, .bin .lss (.t p17) (.t p16), none, 0⟩] false)
 (.seq (.cond (.t p18) .skip (.exit 1))
 (.seq (.block 2 (.seq (.region [⟨some p19, .iaddrS 3 (.t p15) (.t p17), none, 0⟩, ⟨some p20, .loadN 3 (.t p19), none, 1⟩, ⟨some p5, .alloc [(.int .u8 (.ofNat 0)), (.int .i64 (.ofNat 0)), .nils], none, 0⟩, ⟨none, .store 3 (.t p5) (.t p20), none, 7⟩] false)
 (.region [⟨some p21, .loadN 1 (.t p2), none, 0⟩, ⟨some p22, .loadN 3 (.t p5), none, 0⟩, ⟨some p23, .call (.c (.fn 125 [] [])) [(.t p21), (.t p22)], none, 3⟩] false)))
 (.region [⟨some p24, .bin .add (.t p17) (.c (.int .i64 (.ofNat 1))), none, 0⟩, ⟨some p17, .mov (.t p24), none, 1⟩] false))))))))))))))) }
theorem ok125 : cFn Try.prog 125 = some ef125 := by kernel_rfl
/-- (pack.reader).num -/
def ef126 : EFn := { id := 126, N := 35, res := [(p6, none)], code := (.seq (.region [⟨some p3, .box (.t p0), none, 0⟩, ⟨some p6, .mov (.c (.int .i64 (.ofNat 0))), none, 0⟩] false)
 (.seq (.region [⟨some p10, .faddr 0 (.t p3), none, 0⟩, ⟨some p11, .load1 (.t p10), none, 1⟩, ⟨some p12, .call (.c (.fn 142 [] [])) [(.t p11)], none, 3⟩, ⟨some p7, .mov (.t p12), none, 7⟩] false)
 (.seq (.region [⟨some p14, .faddr 0 (.t p3), none, 0⟩, ⟨some p15, .load1 (.t p14), none, 1⟩, ⟨some p16, .mov (.t p2), none, 0⟩, ⟨some p17, .conv .u64 (.t p16), none, 4⟩, ⟨some p18, .call (.c (.fn 143 [] [])) [(.t p15), (.t p17)], none, 15⟩, ⟨some p13, .mov (.t p18), none, 31⟩, ⟨some p19, .ext 0 (.t p13), none, 63⟩, ⟨some p20, .ext 1 (.t p13), none, 63⟩, ⟨some p8, .mov (.t p19), none, 127⟩, ⟨some p9, .mov (.t p20), none, 511⟩] false)
 (.seq (.seq (.region [⟨some p21, .mov (.t p9), none, 0⟩, ⟨some p22, .bin .eql (.t p21) (.c (.int .i64 (.ofNat 0))), none, 1⟩, ⟨some p23, .mov (.t p22), none, 3⟩, ⟨some p24, .mov (.t p8), some (p23, true), 7⟩, ⟨some p25, .conv .i64 (.t p24), some (p23, true), 15⟩, ⟨some p26, .mov (.t p1), some (p23, true), 7⟩, ⟨some p27, .bin .lss (.t p25) (.t p26), some (p23, true), 63⟩, ⟨some p28, .pick (.t p23) (.t p27) (.c (.bool false)), none, 127⟩] false)
 (.cond (.t p28) (.seq (.region [⟨some p29, .faddr 0 (.t p3), none, 0⟩, ⟨some p30, .load1 (.t p29), none, 1⟩, ⟨some p31, .mov (.t p7), none, 0⟩, ⟨some p32, .call (.c (.fn 144 [] [])) [(.t p30), (.t p31), (.c (.int .i64 (.ofNat 20)))], none, 7⟩] false)
 (.seq (.region [⟨some p6, .mov (.c (.int .i64 (.ofNat 0))), none, 0⟩] false)
 .ret)) .skip))
 (.seq (.region [⟨some p33, .mov (.t p8), none, 0⟩, ⟨some p34, .conv .i64 (.t p33), none, 1⟩, ⟨some p6, .mov (.t p34), none, 3⟩] false)
 .ret))))) }
theorem ok126 : cFn Try.prog 126 = some ef126 := by kernel_rfl
/-- (*bytes.Reader).Int -/
def ef127 : EFn := { id := 127, N := 14, res := [(p2, none), (p3, none)], code := (.seq (.region [⟨some p2, .mov (.c (.int .i64 (.ofNat 0))), none, 0⟩, ⟨some p3, .mov (.c (.int .i64 (.ofNat 0))), none, 1⟩] false)
 (.seq (.region [⟨some p7, .mov (.t p0), none, 0⟩, ⟨some p8, .call (.c (.fn 143 [] [])) [(.t p7), (.c (.int .u64 (.ofNat 18446744073709551615)))], none, 1⟩, ⟨some p6, .mov (.t p8), none, 3⟩, ⟨some p9, .ext 0 (.t p6), none, 7⟩, ⟨some p10, .ext 1 (.t p6), none, 7⟩, ⟨some p4, .mov (.t p9), none, 15⟩, ⟨some p5, .mov (.t p10), none, 63⟩] false)
 (.seq (.region [⟨some p11, .mov (.t p4), none, 0⟩, ⟨some p12, .call (.c (.fn 145 [] [])) [(.t p11)], none, 1⟩, ⟨some p13, .mov (.t p5), none, 0⟩, ⟨some p2, .mov (.t p12), none, 3⟩, ⟨some p3, .mov (.t p13), none, 15⟩] false)
 .ret))) }
theorem ok127 : cFn Try.prog 127 = some ef127 := by kernel_rfl
/-- (pack.reader).bad -/
def ef128 : EFn := { id := 128, N := 13, res := [(p2, none)], code := (.seq (.region [⟨some p1, .box (.t p0), none, 0⟩, ⟨some p2, .mov (.c (.bool false)), none, 0⟩] false)
 (.seq (.region [⟨some p6, .faddr 0 (.t p1), none, 0⟩, ⟨some p7, .load1 (.t p6), none, 1⟩, ⟨some p8, .call (.c (.fn 102 [] [])) [(.t p7)], none, 3⟩, ⟨some p5, .mov (.t p8), none, 7⟩, ⟨some p9, .ext 0 (.t p5), none, 15⟩, ⟨some p10, .ext 1 (.t p5), none, 15⟩, ⟨some p3, .mov (.t p9), none, 31⟩, ⟨some p4, .mov (.t p10), none, 127⟩] false)
 (.seq (.region [⟨some p11, .mov (.t p4), none, 0⟩, ⟨some p12, .bin .neq (.t p11) (.c (.int .i64 (.ofNat 0))), none, 1⟩, ⟨some p2, .mov (.t p12), none, 3⟩] false)
 .ret))) }
theorem ok128 : cFn Try.prog 128 = some ef128 := by kernel_rfl
/-- (pack.reader).block -/
def ef129 : EFn := { id := 129, N := 78, res := [(p4, none)], code := (.seq (.region [⟨some p2, .box (.t p0), none, 0⟩, ⟨some p4, .mov (.c .nils), none, 0⟩] false)
 (.seq (.region [⟨some p5, .mov (.c .nils), none, 0⟩] false)
 (.seq (.region [⟨some p11, .faddr 0 (.t p2), none, 0⟩, ⟨some p12, .load1 (.t p11), none, 1⟩, ⟨some p13, .call (.c (.fn 142 [] [])) [(.t p12)], none, 3⟩, ⟨some p6, .mov (.t p13), none, 7⟩] false)
 (.seq (.region [⟨some p14, .loadN 1 (.t p2), none, 0⟩, ⟨some p15, .call (.c (.fn 126 [] [])) [(.t p14), (.c (.int .i64 (.ofNat 0))), (.c (.int .i64 (.ofNat 40)))], none, 1⟩, ⟨some p7, .mov (.t p15), none, 3⟩] false)
 (.seq (.seq (.region [⟨some p16, .mov (.t p7), none, 0⟩, ⟨some p17, .bin .gtr (.t p16) (.c (.int .i64 (.ofNat 0))), none, 1⟩, ⟨some p18, .mov (.t p17), none, 3⟩, ⟨some p19, .mov (.t p1), some (p18, true), 7⟩, ⟨some p20, .bin .gtr (.t p19) (.c (.int .i64 (.ofNat 6))), some (p18, true), 15⟩, ⟨some p21, .pick (.t p18) (.t p20) (.c (.bool false)), none, 31⟩] false)
 (.cond (.t p21) (.seq (.region [⟨some p22, .faddr 0 (.t p2), none, 0⟩, ⟨some p23, .load1 (.t p22), none, 1⟩, ⟨some p24, .mov (.t p6), none, 0⟩, ⟨some p25, .call (.c (.fn 144 [] [])) [(.t p23), (.t p24), (.c (.int .i64 (.ofNat 40)))], none, 7⟩] false)
 (.seq (.region [⟨some p4, .mov (.c .nils), none, 0⟩] false)
 .ret)) .skip))
 (.seq (.seq (.region [⟨some p26, .mov (.t p7), none, 0⟩, ⟨some p27, .mov (.c (.int .i64 (.ofNat 0))), none, 0⟩] false)
 (.block 0 (.loop (.seq (.region [⟨some p28, .bin .lss (.t p27) (.t p26), none, 0⟩] false)
 (.seq (.cond (.t p28) .skip (.exit 0))
 (.seq (.block 1 (.seq (.region [⟨some p29, .loadN 1 (.t p2), none, 0⟩, ⟨some p30, .call (.c (.fn 126 [] [])) [(.t p29), (.c (.int .i64 (.ofNat 1))), (.c (.int .i64 (.ofNat 8)))], none, 1⟩, ⟨some p31, .conv .u8 (.t p30), none, 3⟩, ⟨some p32, .build [(.int .u8 (.ofNat 0)), (.int .i64 (.ofNat 0)), (.int .u8 (.ofNat 0)), (.int .i64 (.ofNat 0)), .nils, (.int .u8 (.ofNat 0)), (.int .i64 (.ofNat 0)), .nils, .nils, .nils] [(0, 1, (.t p31))], none, 7⟩, ⟨some p8, .alloc [(.int .u8 (.ofNat 0)), (.int .i64 (.ofNat 0)), (.int .u8 (.ofNat 0)), (.int .i64 (.ofNat 0)), .nils, (.int .u8 (.ofNat 0)), (.int .i64 (.ofNat 0)), .nils, .nils, .nils], none, 0⟩, ⟨none, .store 10 (.t p8) (.t p32), none, 31⟩] false)
 (.seq (.seq (.region [⟨some p33, .loadN 1 (.t p2), none, 0⟩, ⟨some p34, .call (.c (.fn 128 [] [])) [(.t p33)], none, 1⟩] false)
 (.cond (.t p34) (.seq (.region [⟨some p4, .mov (.c .nils), none, 0⟩] false)
 .ret) .skip))
 (.seq (.seq (.region [⟨some p35, .faddr 0 (.t p8), none, 0⟩, ⟨some p36, .load1 (.t p35), none, 1⟩, ⟨some p37, .call (.c (.fn 124 [] [])) [(.t p36)], none, 3⟩, ⟨some p38, .rng (.t p37), none, 7⟩] false)
 (.block 2 (.loop (.seq (.region [⟨some p39, .nxt (.t p38), none, 0⟩, ⟨some p40, .ext 0 (.t p39), none, 1⟩] false)
 (.seq (.cond (.t p40) .skip (.exit 2))
 (.block 3 (.seq (.region [⟨some p41, .ext 2 (.t p39), none, 0⟩, ⟨some p10, .mov (.t p41), none, 1⟩] false)
 (.seq (.region [⟨some p42, .mov (.t p10), none, 0⟩] false)
 (.block 4 (.seq (.region [⟨some p44, .bin .eql (.t p42) (.c (.int .i32 (.ofNat 116))), none, 0⟩, ⟨some p43, .mov (.t p44), none, 1⟩] false)
 (.cond (.t p43) (.region [⟨some p45, .loadN 1 (.t p2), none, 0⟩, ⟨some p46, .call (.c (.fn 126 [] [])) [(.t p45), (.c (.int .i64 (.ofNat 0))), (.c (.int .i64 (.ofNat 7)))], none, 1⟩, ⟨some p47, .faddr 1 (.t p8), none, 3⟩, ⟨none, .store 1 (.t p47) (.t p46), none, 7⟩] false) (.seq (.region [⟨some p49, .bin .eql (.t p42) (.c (.int .i32 (.ofNat 97))), none, 0⟩, ⟨some p48, .mov (.t p49), none, 1⟩] false)
 (.cond (.t p48) (.region [⟨some p50, .loadN 1 (.t p2), none, 0⟩, ⟨some p51, .call (.c (.fn 146 [] [])) [(.t p50), (.c (.int .i64 (.ofNat 1)))], none, 1⟩, ⟨some p52, .faddr 2 (.t p8), none, 3⟩, ⟨none, .store 3 (.t p52) (.t p51), none, 7⟩] false) (.seq (.region [⟨some p54, .bin .eql (.t p42) (.c (.int .i32 (.ofNat 98))), none, 0⟩, ⟨some p53, .mov (.t p54), none, 1⟩] false)
 (.cond (.t p53) (.region [⟨some p55, .loadN 1 (.t p2), none, 0⟩, ⟨some p56, .call (.c (.fn 146 [] [])) [(.t p55), (.c (.int .i64 (.ofNat 1)))], none, 1⟩, ⟨some p57, .faddr 5 (.t p8), none, 3⟩, ⟨none, .store 3 (.t p57) (.t p56), none, 7⟩] false) (.seq (.region [⟨some p59, .bin .eql (.t p42) (.c (.int .i32 (.ofNat 111))), none, 0⟩, ⟨some p58, .mov (.t p59), none, 1⟩] false)
 (.cond (.t p58) (.region [⟨some p60, .loadN 1 (.t p2), none, 0⟩, ⟨some p61, .mov (.t p1), none, 0⟩, ⟨some p62, .bin .add (.t p61) (.c (.int .i64 (.ofNat 1))), none, 2⟩, ⟨some p63, .call (.c (.fn 129 [] [])) [(.t p60), (.t p62)], none, 7⟩, ⟨some p64, .faddr 8 (.t p8), none, 15⟩, ⟨none, .store 1 (.t p64) (.t p63), none, 31⟩] false) (.seq (.region [⟨some p66, .bin .eql (.t p42) (.c (.int .i32 (.ofNat 101))), none, 0⟩, ⟨some p65, .mov (.t p66), none, 1⟩] false)
 (.cond (.t p65) (.region [⟨some p67, .loadN 1 (.t p2), none, 0⟩, ⟨some p68, .mov (.t p1), none, 0⟩, ⟨some p69, .bin .add (.t p68) (.c (.int .i64 (.ofNat 1))), none, 2⟩, ⟨some p70, .call (.c (.fn 129 [] [])) [(.t p67), (.t p69)], none, 7⟩, ⟨some p71, .faddr 9 (.t p8), none, 15⟩, ⟨none, .store 1 (.t p71) (.t p70), none, 31⟩] false) .skip)))))))))))))))))))
 (.region [⟨some p72, .mov (.t p5), none, 0⟩, ⟨some p73, .loadN 10 (.t p8), none, 0⟩, ⟨some p74, .buildSl [(.int .u8 (.ofNat 0)), (.int .i64 (.ofNat 0)), (.int .u8 (.ofNat 0)), (.int .i64 (.ofNat 0)), .nils, (.int .u8 (.ofNat 0)), (.int .i64 (.ofNat 0)), .nils, .nils, .nils] 1 [(0, 10, (.t p73))], none, 2⟩, ⟨some p75, .app 10 (.t p72) (.t p74), none, 7⟩, ⟨some p5, .mov (.t p75), none, 15⟩] false)))))
 (.region [⟨some p76, .bin .add (.t p27) (.c (.int .i64 (.ofNat 1))), none, 0⟩, ⟨some p27, .mov (.t p76), none, 1⟩] false)))))))
 (.seq (.region [⟨some p77, .mov (.t p5), none, 0⟩, ⟨some p4, .mov (.t p77), none, 1⟩] false)
 .ret))))))) }
theorem ok129 : cFn Try.prog 129 = some ef129 := by kernel_rfl
/-- bytes.read[bool] -/
def ef130 : EFn := { id := 130, N := 55, res := [(p4, none), (p5, none)], code := (.seq (.region [⟨some p4, .mov (.c (.bool false)), none, 0⟩, ⟨some p5, .mov (.c (.int .i64 (.ofNat 0))), none, 1⟩] false)
 (.seq (.block 0 (.seq (.region [⟨some p9, .mov (.t p0), none, 0⟩, ⟨some p10, .eq false .nilP (.t p9) (.c .nilp), none, 1⟩, ⟨some p8, .mov (.t p10), none, 3⟩] false)
 (.cond (.t p8) (.seq (.region [⟨some p11, .mov (.t p4), none, 0⟩, ⟨some p4, .mov (.t p11), none, 1⟩, ⟨some p5, .mov (.c (.int .i64 (.ofNat 2))), none, 3⟩] false)
 .ret) (.seq (.region [⟨some p13, .mov (.t p0), none, 0⟩, ⟨some p14, .nilck (.t p13), none, 1⟩, ⟨some p15, .faddr 2 (.t p14), none, 3⟩, ⟨some p16, .load1 (.t p15), none, 7⟩, ⟨some p17, .bin .neq (.t p16) (.c (.int .i64 (.ofNat 0))), none, 15⟩, ⟨some p12, .mov (.t p17), none, 31⟩] false)
 (.cond (.t p12) (.seq (.region [⟨some p18, .mov (.t p4), none, 0⟩, ⟨some p19, .mov (.t p0), none, 0⟩, ⟨some p20, .nilck (.t p19), none, 2⟩, ⟨some p21, .faddr 2 (.t p20), none, 6⟩, ⟨some p22, .load1 (.t p21), none, 14⟩, ⟨some p4, .mov (.t p18), none, 1⟩, ⟨some p5, .mov (.t p22), none, 63⟩] true)
 .ret) .skip)))))
 (.seq (.region [⟨some p24, .mov (.t p1), none, 0⟩, ⟨some p25, .mov (.t p0), none, 0⟩, ⟨some p26, .nilck (.t p25), none, 2⟩, ⟨some p27, .faddr 0 (.t p26), none, 6⟩, ⟨some p28, .load1 (.t p27), none, 14⟩, ⟨some p29, .mov (.t p0), none, 0⟩, ⟨some p30, .nilck (.t p29), none, 32⟩, ⟨some p31, .faddr 1 (.t p30), none, 96⟩, ⟨some p32, .load1 (.t p31), none, 224⟩, ⟨some p33, .slcS (.t p28) (some (.t p32)) none, none, 510⟩, ⟨some p34, .call (.t p24) [(.t p33)], none, 1023⟩, ⟨some p23, .mov (.t p34), none, 2047⟩, ⟨some p35, .ext 0 (.t p23), none, 4095⟩, ⟨some p36, .ext 1 (.t p23), none, 4095⟩, ⟨some p37, .ext 2 (.t p23), none, 4095⟩, ⟨some p6, .mov (.t p35), none, 8191⟩, ⟨some p7, .mov (.t p36), none, 49151⟩, ⟨some p5, .mov (.t p37), none, 131071⟩] true)
 (.seq (.seq (.region [⟨some p38, .mov (.t p5), none, 0⟩, ⟨some p39, .bin .neq (.t p38) (.c (.int .i64 (.ofNat 0))), none, 1⟩] false)
 (.cond (.t p39) (.seq (.region [⟨some p40, .mov (.t p0), none, 0⟩, ⟨some p41, .mov (.t p5), none, 0⟩, ⟨some p42, .nilck (.t p40), none, 3⟩, ⟨some p43, .faddr 2 (.t p42), none, 7⟩, ⟨none, .store 1 (.t p43) (.t p41), none, 15⟩] false)
 (.seq (.region [⟨some p44, .mov (.t p4), none, 0⟩, ⟨some p45, .mov (.t p5), none, 0⟩, ⟨some p4, .mov (.t p44), none, 1⟩, ⟨some p5, .mov (.t p45), none, 7⟩] false)
 .ret)) .skip))
 (.seq (.region [⟨some p46, .mov (.t p0), none, 0⟩, ⟨some p47, .nilck (.t p46), none, 1⟩, ⟨some p48, .faddr 1 (.t p47), none, 3⟩, ⟨some p49, .load1 (.t p48), none, 7⟩, ⟨some p50, .mov (.t p7), none, 0⟩, ⟨some p51, .bin .add (.t p49) (.t p50), none, 31⟩, ⟨some p52, .nilck (.t p46), none, 63⟩, ⟨some p53, .faddr 1 (.t p52), none, 127⟩, ⟨none, .store 1 (.t p53) (.t p51), none, 255⟩] false)
 (.seq (.region [⟨some p54, .mov (.t p6), none, 0⟩, ⟨some p4, .mov (.t p54), none, 1⟩, ⟨some p5, .mov (.c (.int .i64 (.ofNat 0))), none, 3⟩] false)
 .ret)))))) }
theorem ok130 : cFn Try.prog 130 = some ef130 := by kernel_rfl
/-- (*bytes.Reader).End$1 -/
def ef131 : EFn := { id := 131, N := 7, res := [(p2, none), (p3, none), (p4, none)], code := (.seq (.region [⟨some p2, .mov (.c (.bool false)), none, 0⟩, ⟨some p3, .mov (.c (.int .i64 (.ofNat 0))), none, 1⟩, ⟨some p4, .mov (.c (.int .i64 (.ofNat 0))), none, 3⟩] false)
 (.seq (.seq (.region [⟨some p5, .mov (.t p0), none, 0⟩, ⟨some p6, .bin .neq (.t p5) (.c (.str [])), none, 1⟩] false)
 (.cond (.t p6) (.seq (.region [⟨some p2, .mov (.c (.bool false)), none, 0⟩, ⟨some p3, .mov (.c (.int .i64 (.ofNat 0))), none, 1⟩, ⟨some p4, .mov (.c (.int .i64 (.ofNat 10))), none, 3⟩] false)
 .ret) .skip))
 (.seq (.region [⟨some p2, .mov (.c (.bool true)), none, 0⟩, ⟨some p3, .mov (.c (.int .i64 (.ofNat 0))), none, 1⟩, ⟨some p4, .mov (.c (.int .i64 (.ofNat 0))), none, 3⟩] false)
 .ret))) }
theorem ok131 : cFn Try.prog 131 = some ef131 := by kernel_rfl
/-- expr.Count -/
def ef134 : EFn := { id := 134, N := 19, res := [(p2, none)], code := (.seq (.region [⟨some p1, .box (.t p0), none, 0⟩, ⟨some p2, .mov (.c (.int .i64 (.ofNat 0))), none, 0⟩] false)
 (.seq (.region [⟨some p3, .mov (.c (.int .i64 (.ofNat 1))), none, 0⟩] false)
 (.seq (.seq (.region [⟨some p6, .faddr 2 (.t p1), none, 0⟩, ⟨some p7, .load1 (.t p6), none, 1⟩, ⟨some p8, .len false (.t p7), none, 3⟩, ⟨some p9, .mov (.c (.int .i64 (.ofNat 0))), none, 0⟩] false)
 (.block 0 (.loop (.seq (.region [⟨some p10, .bin .lss (.t p9) (.t p8), none, 0⟩] false)
 (.seq (.cond (.t p10) .skip (.exit 0))
 (.seq (.block 1 (.seq (.region [⟨some p11, .iaddrS 3 (.t p7) (.t p9), none, 0⟩, ⟨some p12, .loadN 3 (.t p11), none, 1⟩, ⟨some p5, .alloc [(.int .u8 (.ofNat 0)), (.int .i64 (.ofNat 0)), .nils], none, 0⟩, ⟨none, .store 3 (.t p5) (.t p12), none, 7⟩] false)
 (.region [⟨some p13, .mov (.t p3), none, 0⟩, ⟨some p14, .loadN 3 (.t p5), none, 0⟩, ⟨some p15, .call (.c (.fn 134 [] [])) [(.t p14)], none, 2⟩, ⟨some p16, .bin .add (.t p13) (.t p15), none, 7⟩, ⟨some p3, .mov (.t p16), none, 15⟩] false)))
 (.region [⟨some p17, .bin .add (.t p9) (.c (.int .i64 (.ofNat 1))), none, 0⟩, ⟨some p9, .mov (.t p17), none, 1⟩] false)))))))
 (.seq (.region [⟨some p18, .mov (.t p3), none, 0⟩, ⟨some p2, .mov (.t p18), none, 1⟩] false)
 .ret)))) }
theorem ok134 : cFn Try.prog 134 = some ef134 := by kernel_rfl
/-- expr.Whole -/
def ef135 : EFn := { id := 135, N := 5, res := [(p2, none)], code := (.seq (.region [⟨some p1, .box (.t p0), none, 0⟩, ⟨some p2, .mov (.c (.bool false)), none, 0⟩] false)
 (.seq (.region [⟨some p3, .loadN 3 (.t p1), none, 0⟩, ⟨some p4, .call (.c (.fn 149 [] [])) [(.t p3), (.c (.int .i64 (.ofNat 6)))], none, 1⟩, ⟨some p2, .mov (.t p4), none, 3⟩] false)
 .ret)) }
theorem ok135 : cFn Try.prog 135 = some ef135 := by kernel_rfl
/-- expr.below -/
def ef136 : EFn := { id := 136, N := 19, res := [(p4, none)], code := (.seq (.region [⟨some p2, .box (.t p0), none, 0⟩, ⟨some p3, .box (.t p1), none, 0⟩, ⟨some p4, .mov (.c (.bool false)), none, 0⟩] false)
 (.seq (.seq (.region [⟨some p5, .faddr 0 (.t p2), none, 0⟩, ⟨some p6, .load1 (.t p5), none, 1⟩, ⟨some p7, .bin .eql (.t p6) (.c (.int .u8 (.ofNat 3))), none, 3⟩, ⟨some p8, .mov (.t p7), none, 7⟩, ⟨some p9, .faddr 1 (.t p2), some (p8, true), 15⟩, ⟨some p10, .load1 (.t p9), some (p8, true), 31⟩, ⟨some p11, .load1 (.t p3), some (p8, true), 15⟩, ⟨some p12, .bin .geq (.t p10) (.t p11), some (p8, true), 127⟩, ⟨some p13, .pick (.t p8) (.t p12) (.c (.bool false)), none, 255⟩] false)
 (.cond (.t p13) (.seq (.region [⟨some p4, .mov (.c (.bool false)), none, 0⟩] false)
 .ret) .skip))
 (.seq (.region [⟨some p14, .faddr 2 (.t p2), none, 0⟩, ⟨some p15, .load1 (.t p14), none, 1⟩, ⟨some p16, .mkfn 151 [] [(.t p3)], none, 0⟩, ⟨some p17, .call (.c (.fn 150 [] [])) [(.t p15), (.t p16)], none, 7⟩, ⟨some p18, .un .not (.t p17), none, 15⟩, ⟨some p4, .mov (.t p18), none, 31⟩] false)
 .ret))) }
theorem ok136 : cFn Try.prog 136 = some ef136 := by kernel_rfl
/-- (*bytes.Writer).Raw -/
def ef141 : EFn := { id := 141, N := 31, res := [(p4, none)], code := (.seq (.region [⟨some p4, .mov (.c (.int .i64 (.ofNat 0))), none, 0⟩] false)
 (.seq (.block 0 (.seq (.region [⟨some p6, .mov (.t p0), none, 0⟩, ⟨some p7, .eq false .nilP (.t p6) (.c .nilp), none, 1⟩, ⟨some p5, .mov (.t p7), none, 3⟩] false)
 (.cond (.t p5) (.seq (.region [⟨some p4, .mov (.c (.int .i64 (.ofNat 2))), none, 0⟩] false)
 .ret) (.seq (.region [⟨some p9, .mov (.t p1), none, 0⟩, ⟨some p10, .len true (.t p9), none, 1⟩, ⟨some p11, .mov (.t p0), none, 0⟩, ⟨some p12, .nilck (.t p11), none, 4⟩, ⟨some p13, .faddr 0 (.t p12), none, 12⟩, ⟨some p14, .load1 (.t p13), none, 28⟩, ⟨some p15, .mov (.t p0), none, 0⟩, ⟨some p16, .nilck (.t p15), none, 64⟩, ⟨some p17, .faddr 1 (.t p16), none, 192⟩, ⟨some p18, .load1 (.t p17), none, 448⟩, ⟨some p19, .len false (.t p18), none, 960⟩, ⟨some p20, .bin .sub (.t p14) (.t p19), none, 2044⟩, ⟨some p21, .bin .gtr (.t p10) (.t p20), none, 4095⟩, ⟨some p8, .mov (.t p21), none, 8191⟩] true)
 (.cond (.t p8) (.seq (.region [⟨some p4, .mov (.c (.int .i64 (.ofNat 40))), none, 0⟩] false)
 .ret) .skip)))))
 (.seq (.region [⟨some p22, .mov (.t p0), none, 0⟩, ⟨some p23, .mov (.t p0), none, 0⟩, ⟨some p24, .nilck (.t p23), none, 2⟩, ⟨some p25, .faddr 1 (.t p24), none, 6⟩, ⟨some p26, .load1 (.t p25), none, 14⟩, ⟨some p27, .mov (.t p1), none, 0⟩, ⟨some p28, .app 1 (.t p26) (.t p27), none, 62⟩, ⟨some p29, .nilck (.t p22), none, 127⟩, ⟨some p30, .faddr 1 (.t p29), none, 255⟩, ⟨none, .store 1 (.t p30) (.t p28), none, 511⟩] false)
 (.seq (.region [⟨some p4, .mov (.c (.int .i64 (.ofNat 0))), none, 0⟩] false)
 .ret)))) }
theorem ok141 : cFn Try.prog 141 = some ef141 := by kernel_rfl
/-- (*bytes.Reader).At -/
def ef142 : EFn := { id := 142, N := 9, res := [(p2, none)], code := (.seq (.region [⟨some p2, .mov (.c (.int .i64 (.ofNat 0))), none, 0⟩] false)
 (.seq (.seq (.region [⟨some p3, .mov (.t p0), none, 0⟩, ⟨some p4, .eq false .nilP (.t p3) (.c .nilp), none, 1⟩] false)
 (.cond (.t p4) (.seq (.region [⟨some p2, .mov (.c (.int .i64 (.ofNat 0))), none, 0⟩] false)
 .ret) .skip))
 (.seq (.region [⟨some p5, .mov (.t p0), none, 0⟩, ⟨some p6, .nilck (.t p5), none, 1⟩, ⟨some p7, .faddr 1 (.t p6), none, 3⟩, ⟨some p8, .load1 (.t p7), none, 7⟩, ⟨some p2, .mov (.t p8), none, 15⟩] false)
 .ret))) }
theorem ok142 : cFn Try.prog 142 = some ef142 := by kernel_rfl
/-- (*bytes.Reader).Num -/
def ef143 : EFn := { id := 143, N := 11, res := [(p4, none), (p5, none)], code := (.seq (.region [⟨some p3, .box (.t p1), none, 0⟩, ⟨some p4, .mov (.c (.int .u64 (.ofNat 0))), none, 0⟩, ⟨some p5, .mov (.c (.int .i64 (.ofNat 0))), none, 2⟩] false)
 (.seq (.region [⟨some p6, .mov (.t p0), none, 0⟩, ⟨some p7, .mkfn 156 [] [(.t p3)], none, 0⟩, ⟨some p8, .call (.c (.fn 155 [] [])) [(.t p6), (.t p7)], none, 3⟩, ⟨some p9, .ext 0 (.t p8), none, 7⟩, ⟨some p10, .ext 1 (.t p8), none, 7⟩, ⟨some p4, .mov (.t p9), none, 31⟩, ⟨some p5, .mov (.t p10), none, 63⟩] false)
 .ret)) }
theorem ok143 : cFn Try.prog 143 = some ef143 := by kernel_rfl
/-- (*bytes.Reader).Fail -/
def ef144 : EFn := { id := 144, N := 44, res := [(p6, none)], code := (.seq (.region [⟨some p6, .mov (.c (.int .i64 (.ofNat 0))), none, 0⟩] false)
 (.seq (.block 0 (.seq (.region [⟨some p8, .mov (.t p0), none, 0⟩, ⟨some p9, .eq false .nilP (.t p8) (.c .nilp), none, 1⟩, ⟨some p7, .mov (.t p9), none, 3⟩] false)
 (.cond (.t p7) (.seq (.region [⟨some p6, .mov (.c (.int .i64 (.ofNat 2))), none, 0⟩] false)
 .ret) (.seq (.region [⟨some p11, .mov (.t p0), none, 0⟩, ⟨some p12, .nilck (.t p11), none, 1⟩, ⟨some p13, .faddr 2 (.t p12), none, 3⟩, ⟨some p14, .load1 (.t p13), none, 7⟩, ⟨some p15, .bin .neq (.t p14) (.c (.int .i64 (.ofNat 0))), none, 15⟩, ⟨some p10, .mov (.t p15), none, 31⟩] false)
 (.cond (.t p10) (.seq (.region [⟨some p16, .mov (.t p0), none, 0⟩, ⟨some p17, .nilck (.t p16), none, 1⟩, ⟨some p18, .faddr 2 (.t p17), none, 3⟩, ⟨some p19, .load1 (.t p18), none, 7⟩, ⟨some p6, .mov (.t p19), none, 15⟩] false)
 .ret) (.seq (.region [⟨some p21, .mov (.t p1), none, 0⟩, ⟨some p22, .bin .lss (.t p21) (.c (.int .i64 (.ofNat 0))), none, 1⟩, ⟨some p23, .mov (.t p22), none, 3⟩, ⟨some p24, .mov (.t p1), some (p23, false), 7⟩, ⟨some p25, .mov (.t p0), some (p23, false), 7⟩, ⟨some p26, .nilck (.t p25), some (p23, false), 23⟩, ⟨some p27, .faddr 1 (.t p26), some (p23, false), 55⟩, ⟨some p28, .load1 (.t p27), some (p23, false), 119⟩, ⟨some p29, .bin .gtr (.t p24) (.t p28), some (p23, false), 255⟩, ⟨some p30, .pick (.t p23) (.c (.bool true)) (.t p29), none, 511⟩, ⟨some p31, .mov (.t p30), none, 1023⟩, ⟨some p32, .mov (.t p2), some (p31, false), 2047⟩, ⟨some p33, .bin .eql (.t p32) (.c (.int .i64 (.ofNat 0))), some (p31, false), 4095⟩, ⟨some p34, .pick (.t p31) (.c (.bool true)) (.t p33), none, 8191⟩, ⟨some p20, .mov (.t p34), none, 16383⟩] false)
 (.cond (.t p20) (.seq (.region [⟨some p6, .mov (.c (.int .i64 (.ofNat 1))), none, 0⟩] false)
 .ret) .skip)))))))
 (.seq (.region [⟨some p35, .mov (.t p0), none, 0⟩, ⟨some p36, .mov (.t p0), none, 0⟩, ⟨some p37, .mov (.t p1), none, 0⟩, ⟨some p38, .mov (.t p2), none, 0⟩, ⟨some p39, .nilck (.t p35), none, 5⟩, ⟨some p40, .faddr 1 (.t p39), none, 21⟩, ⟨none, .store 1 (.t p40) (.t p37), none, 53⟩, ⟨some p41, .nilck (.t p36), none, 127⟩, ⟨some p42, .faddr 2 (.t p41), none, 255⟩, ⟨none, .store 1 (.t p42) (.t p38), none, 511⟩] false)
 (.seq (.region [⟨some p43, .mov (.t p2), none, 0⟩, ⟨some p6, .mov (.t p43), none, 1⟩] false)
 .ret)))) }
theorem ok144 : cFn Try.prog 144 = some ef144 := by kernel_rfl
/-- varint.Zag -/
def ef145 : EFn := { id := 145, N := 11, res := [(p2, none)], code := (.seq (.region [⟨some p2, .mov (.c (.int .i64 (.ofNat 0))), none, 0⟩] false)
 (.seq (.region [⟨some p3, .mov (.t p0), none, 0⟩, ⟨some p4, .bin .shr (.t p3) (.c (.int .u64 (.ofNat 1))), none, 1⟩, ⟨some p5, .conv .i64 (.t p4), none, 3⟩, ⟨some p6, .mov (.t p0), none, 0⟩, ⟨some p7, .bin .and (.t p6) (.c (.int .u64 (.ofNat 1))), none, 8⟩, ⟨some p8, .conv .i64 (.t p7), none, 24⟩, ⟨some p9, .un .neg (.t p8), none, 56⟩, ⟨some p10, .bin .xor (.t p5) (.t p9), none, 127⟩, ⟨some p2, .mov (.t p10), none, 255⟩] false)
 .ret)) }
theorem ok145 : cFn Try.prog 145 = some ef145 := by kernel_rfl
/-- (pack.reader).expr -/
def ef146 : EFn := { id := 146, N := 48, res := [(p4, some (some 3))], code := (.seq (.region [⟨some p2, .box (.t p0), none, 0⟩, ⟨some p4, .alloc [(.int .u8 (.ofNat 0)), (.int .i64 (.ofNat 0)), .nils], none, 0⟩] false)
 (.seq (.region [⟨some p7, .loadN 1 (.t p2), none, 0⟩, ⟨some p8, .mov (.t p1), none, 0⟩, ⟨some p9, .call (.c (.fn 157 [] [])) [(.t p7), (.c (.int .i64 (.ofNat 1))), (.c (.int .i64 (.ofNat 8))), (.t p8)], none, 3⟩, ⟨some p10, .conv .u8 (.t p9), none, 7⟩, ⟨some p11, .build [(.int .u8 (.ofNat 0)), (.int .i64 (.ofNat 0)), .nils] [(0, 1, (.t p10))], none, 15⟩, ⟨some p5, .alloc [(.int .u8 (.ofNat 0)), (.int .i64 (.ofNat 0)), .nils], none, 0⟩, ⟨none, .store 3 (.t p5) (.t p11), none, 63⟩] false)
 (.seq (.seq (.region [⟨some p12, .loadN 1 (.t p2), none, 0⟩, ⟨some p13, .call (.c (.fn 128 [] [])) [(.t p12)], none, 1⟩] false)
 (.cond (.t p13) (.seq (.region [⟨some p14, .build [(.int .u8 (.ofNat 0)), (.int .i64 (.ofNat 0)), .nils] [], none, 0⟩, ⟨none, .store 3 (.t p4) (.t p14), none, 1⟩] false)
 .ret) .skip))
 (.seq (.seq (.region [⟨some p15, .faddr 0 (.t p5), none, 0⟩, ⟨some p16, .load1 (.t p15), none, 1⟩] false)
 (.block 0 (.seq (.region [⟨some p29, .bin .eql (.t p16) (.c (.int .u8 (.ofNat 1))), none, 0⟩, ⟨some p28, .mov (.t p29), none, 1⟩] false)
 (.cond (.t p28) (.region [⟨some p31, .faddr 0 (.t p2), none, 0⟩, ⟨some p32, .load1 (.t p31), none, 1⟩, ⟨some p33, .call (.c (.fn 127 [] [])) [(.t p32)], none, 3⟩, ⟨some p30, .mov (.t p33), none, 7⟩, ⟨some p34, .ext 0 (.t p30), none, 15⟩, ⟨some p35, .ext 1 (.t p30), none, 15⟩, ⟨some p36, .faddr 1 (.t p5), none, 31⟩, ⟨none, .store 1 (.t p36) (.t p34), none, 95⟩] false) (.seq (.region [⟨some p38, .bin .eql (.t p16) (.c (.int .u8 (.ofNat 2))), none, 0⟩, ⟨some p37, .mov (.t p38), none, 1⟩] false)
 (.cond (.t p37) (.region [⟨some p39, .loadN 1 (.t p2), none, 0⟩, ⟨some p40, .call (.c (.fn 126 [] [])) [(.t p39), (.c (.int .i64 (.ofNat 0))), (.c (.int .i64 (.ofNat 7)))], none, 1⟩, ⟨some p41, .faddr 1 (.t p5), none, 3⟩, ⟨none, .store 1 (.t p41) (.t p40), none, 7⟩] false) (.seq (.region [⟨some p43, .bin .eql (.t p16) (.c (.int .u8 (.ofNat 3))), none, 0⟩, ⟨some p42, .mov (.t p43), none, 1⟩] false)
 (.cond (.t p42) (.region [⟨some p44, .loadN 1 (.t p2), none, 0⟩, ⟨some p45, .call (.c (.fn 126 [] [])) [(.t p44), (.c (.int .i64 (.ofNat 0))), (.c (.int .i64 (.ofNat 5)))], none, 1⟩, ⟨some p46, .faddr 1 (.t p5), none, 3⟩, ⟨none, .store 1 (.t p46) (.t p45), none, 7⟩] false) (.seq (.region [⟨some p17, .loadN 1 (.t p2), none, 0⟩, ⟨some p18, .mov (.t p1), none, 0⟩, ⟨some p19, .bin .add (.t p18) (.c (.int .i64 (.ofNat 1))), none, 2⟩, ⟨some p20, .call (.c (.fn 146 [] [])) [(.t p17), (.t p19)], none, 7⟩, ⟨some p6, .alloc [(.int .u8 (.ofNat 0)), (.int .i64 (.ofNat 0)), .nils], none, 0⟩, ⟨none, .store 3 (.t p6) (.t p20), none, 31⟩] false)
 (.region [⟨some p21, .loadN 3 (.t p6), none, 0⟩, ⟨some p22, .loadN 1 (.t p2), none, 0⟩, ⟨some p23, .mov (.t p1), none, 0⟩, ⟨some p24, .bin .add (.t p23) (.c (.int .i64 (.ofNat 1))), none, 4⟩, ⟨some p25, .call (.c (.fn 146 [] [])) [(.t p22), (.t p24)], none, 14⟩, ⟨some p26, .buildSl [(.int .u8 (.ofNat 0)), (.int .i64 (.ofNat 0)), .nils, (.int .u8 (.ofNat 0)), (.int .i64 (.ofNat 0)), .nils] 2 [(0, 3, (.t p21)), (3, 3, (.t p25))], none, 31⟩, ⟨some p27, .faddr 2 (.t p5), none, 63⟩, ⟨none, .store 1 (.t p27) (.t p26), none, 127⟩] true))))))))))
 (.seq (.region [⟨some p47, .loadN 3 (.t p5), none, 0⟩, ⟨none, .store 3 (.t p4) (.t p47), none, 1⟩] false)
 .ret))))) }
theorem ok146 : cFn Try.prog 146 = some ef146 := by kernel_rfl
/-- expr.whole -/
def ef149 : EFn := { id := 149, N := 84, res := [(p4, none)], code := (.seq (.region [⟨some p2, .box (.t p0), none, 0⟩, ⟨some p4, .mov (.c (.bool false)), none, 0⟩] false)
 (.seq (.region [⟨some p6, .faddr 2 (.t p2), none, 0⟩, ⟨some p7, .load1 (.t p6), none, 1⟩, ⟨some p8, .len false (.t p7), none, 3⟩, ⟨some p9, .bin .eql (.t p8) (.c (.int .i64 (.ofNat 0))), none, 7⟩, ⟨some p5, .mov (.t p9), none, 15⟩] false)
 (.seq (.block 0 (.seq (.region [⟨some p11, .mov (.t p1), none, 0⟩, ⟨some p12, .bin .lss (.t p11) (.c (.int .i64 (.ofNat 1))), none, 1⟩, ⟨some p10, .mov (.t p12), none, 3⟩] false)
 (.cond (.t p10) (.seq (.region [⟨some p4, .mov (.c (.bool false)), none, 0⟩] false)
 .ret) (.seq (.region [⟨some p14, .faddr 0 (.t p2), none, 0⟩, ⟨some p15, .load1 (.t p14), none, 1⟩, ⟨some p16, .bin .eql (.t p15) (.c (.int .u8 (.ofNat 1))), none, 3⟩, ⟨some p13, .mov (.t p16), none, 7⟩] false)
 (.cond (.t p13) (.seq (.region [⟨some p17, .mov (.t p5), none, 0⟩, ⟨some p4, .mov (.t p17), none, 1⟩] false)
 .ret) (.seq (.region [⟨some p19, .faddr 0 (.t p2), none, 0⟩, ⟨some p20, .load1 (.t p19), none, 1⟩, ⟨some p21, .bin .eql (.t p20) (.c (.int .u8 (.ofNat 2))), none, 3⟩, ⟨some p18, .mov (.t p21), none, 7⟩] false)
 (.cond (.t p18) (.seq (.region [⟨some p22, .mov (.t p5), none, 0⟩, ⟨some p23, .mov (.t p22), none, 1⟩, ⟨some p24, .faddr 1 (.t p2), some (p23, true), 3⟩, ⟨some p25, .load1 (.t p24), some (p23, true), 7⟩, ⟨some p26, .bin .geq (.t p25) (.c (.int .i64 (.ofNat 0))), some (p23, true), 15⟩, ⟨some p27, .pick (.t p23) (.t p26) (.c (.bool false)), none, 31⟩, ⟨some p28, .mov (.t p27), none, 63⟩, ⟨some p29, .faddr 1 (.t p2), some (p28, true), 127⟩, ⟨some p30, .load1 (.t p29), some (p28, true), 255⟩, ⟨some p31, .bin .lss (.t p30) (.c (.int .i64 (.ofNat 8))), some (p28, true), 511⟩, ⟨some p32, .pick (.t p28) (.t p31) (.c (.bool false)), none, 1023⟩, ⟨some p4, .mov (.t p32), none, 2047⟩] false)
 .ret) (.seq (.region [⟨some p34, .faddr 0 (.t p2), none, 0⟩, ⟨some p35, .load1 (.t p34), none, 1⟩, ⟨some p36, .bin .eql (.t p35) (.c (.int .u8 (.ofNat 3))), none, 3⟩, ⟨some p33, .mov (.t p36), none, 7⟩] false)
 (.cond (.t p33) (.seq (.region [⟨some p37, .mov (.t p5), none, 0⟩, ⟨some p38, .mov (.t p37), none, 1⟩, ⟨some p39, .faddr 1 (.t p2), some (p38, true), 3⟩, ⟨some p40, .load1 (.t p39), some (p38, true), 7⟩, ⟨some p41, .bin .geq (.t p40) (.c (.int .i64 (.ofNat 0))), some (p38, true), 15⟩, ⟨some p42, .pick (.t p38) (.t p41) (.c (.bool false)), none, 31⟩, ⟨some p43, .mov (.t p42), none, 63⟩, ⟨some p44, .faddr 1 (.t p2), some (p43, true), 127⟩, ⟨some p45, .load1 (.t p44), some (p43, true), 255⟩, ⟨some p46, .bin .lss (.t p45) (.c (.int .i64 (.ofNat 6))), some (p43, true), 511⟩, ⟨some p47, .pick (.t p43) (.t p46) (.c (.bool false)), none, 1023⟩, ⟨some p4, .mov (.t p47), none, 2047⟩] false)
 .ret) (.seq (.region [⟨some p49, .faddr 0 (.t p2), none, 0⟩, ⟨some p50, .load1 (.t p49), none, 1⟩, ⟨some p51, .bin .lss (.t p50) (.c (.int .u8 (.ofNat 4))), none, 3⟩, ⟨some p52, .mov (.t p51), none, 7⟩, ⟨some p53, .faddr 0 (.t p2), some (p52, false), 15⟩, ⟨some p54, .load1 (.t p53), some (p52, false), 31⟩, ⟨some p55, .bin .gtr (.t p54) (.c (.int .u8 (.ofNat 8))), some (p52, false), 63⟩, ⟨some p56, .pick (.t p52) (.c (.bool true)) (.t p55), none, 127⟩, ⟨some p57, .mov (.t p56), none, 255⟩, ⟨some p58, .faddr 1 (.t p2), some (p57, false), 511⟩, ⟨some p59, .load1 (.t p58), some (p57, false), 1023⟩, ⟨some p60, .bin .neq (.t p59) (.c (.int .i64 (.ofNat 0))), some (p57, false), 2047⟩, ⟨some p61, .pick (.t p57) (.c (.bool true)) (.t p60), none, 4095⟩, ⟨some p62, .mov (.t p61), none, 8191⟩, ⟨some p63, .faddr 2 (.t p2), some (p62, false), 16383⟩, ⟨some p64, .load1 (.t p63), some (p62, false), 32767⟩, ⟨some p65, .len false (.t p64), some (p62, false), 65535⟩, ⟨some p66, .bin .neq (.t p65) (.c (.int .i64 (.ofNat 2))), some (p62, false), 131071⟩, ⟨some p67, .pick (.t p62) (.c (.bool true)) (.t p66), none, 262143⟩, ⟨some p48, .mov (.t p67), none, 524287⟩] false)
 (.cond (.t p48) (.seq (.region [⟨some p4, .mov (.c (.bool false)), none, 0⟩] false)
 .ret) .skip)))))))))))
 (.seq (.region [⟨some p68, .faddr 2 (.t p2), none, 0⟩, ⟨some p69, .load1 (.t p68), none, 1⟩, ⟨some p70, .iaddrS 3 (.t p69) (.c (.int .i64 (.ofNat 0))), none, 3⟩, ⟨some p71, .loadN 3 (.t p70), none, 7⟩, ⟨some p72, .mov (.t p1), none, 0⟩, ⟨some p73, .bin .sub (.t p72) (.c (.int .i64 (.ofNat 1))), none, 16⟩, ⟨some p74, .call (.c (.fn 149 [] [])) [(.t p71), (.t p73)], none, 63⟩, ⟨some p75, .mov (.t p74), none, 127⟩, ⟨some p76, .faddr 2 (.t p2), some (p75, true), 255⟩, ⟨some p77, .load1 (.t p76), some (p75, true), 511⟩, ⟨some p78, .iaddrS 3 (.t p77) (.c (.int .i64 (.ofNat 1))), some (p75, true), 1023⟩, ⟨some p79, .loadN 3 (.t p78), some (p75, true), 2047⟩, ⟨some p80, .mov (.t p1), some (p75, true), 255⟩, ⟨some p81, .bin .sub (.t p80) (.c (.int .i64 (.ofNat 1))), some (p75, true), 4351⟩, ⟨some p82, .call (.c (.fn 149 [] [])) [(.t p79), (.t p81)], some (p75, true), 16383⟩, ⟨some p83, .pick (.t p75) (.t p82) (.c (.bool false)), none, 32767⟩, ⟨some p4, .mov (.t p83), none, 65535⟩] false)
 .ret)))) }
theorem ok149 : cFn Try.prog 149 = some ef149 := by kernel_rfl
/-- slices.ContainsFunc[[]api.Expr,api.Expr] -/
def ef150 : EFn := { id := 150, N := 9, res := [(p4, none)], code := (.seq (.region [⟨some p4, .mov (.c (.bool false)), none, 0⟩] false)
 (.seq (.region [⟨some p5, .mov (.t p0), none, 0⟩, ⟨some p6, .mov (.t p1), none, 0⟩, ⟨some p7, .call (.c (.fn 158 [] [])) [(.t p5), (.t p6)], none, 3⟩, ⟨some p8, .bin .geq (.t p7) (.c (.int .i64 (.ofNat 0))), none, 7⟩, ⟨some p4, .mov (.t p8), none, 15⟩] false)
 .ret)) }
theorem ok150 : cFn Try.prog 150 = some ef150 := by kernel_rfl
/-- expr.below$1 -/
def ef151 : EFn := { id := 151, N := 8, res := [(p3, none)], code := (.seq (.region [⟨some p2, .box (.t p0), none, 0⟩, ⟨some p3, .mov (.c (.bool false)), none, 0⟩] false)
 (.seq (.region [⟨some p4, .loadN 3 (.t p2), none, 0⟩, ⟨some p5, .load1 (.t p1), none, 0⟩, ⟨some p6, .call (.c (.fn 136 [] [])) [(.t p4), (.t p5)], none, 3⟩, ⟨some p7, .un .not (.t p6), none, 7⟩, ⟨some p3, .mov (.t p7), none, 15⟩] false)
 .ret)) }
theorem ok151 : cFn Try.prog 151 = some ef151 := by kernel_rfl
/-- bytes.read[uint64] -/
def ef155 : EFn := { id := 155, N := 55, res := [(p4, none), (p5, none)], code := (.seq (.region [⟨some p4, .mov (.c (.int .u64 (.ofNat 0))), none, 0⟩, ⟨some p5, .mov (.c (.int .i64 (.ofNat 0))), none, 1⟩] false)
 (.seq (.block 0 (.seq (.region [⟨some p9, .mov (.t p0), none, 0⟩, ⟨some p10, .eq false .nilP (.t p9) (.c .nilp), none, 1⟩, ⟨some p8, .mov (.t p10), none, 3⟩] false)
 (.cond (.t p8) (.seq (.region [⟨some p11, .mov (.t p4), none, 0⟩, ⟨some p4, .mov (.t p11), none, 1⟩, ⟨some p5, .mov (.c (.int .i64 (.ofNat 2))), none, 3⟩] false)
 .ret) (.seq (.region [⟨some p13, .mov (.t p0), none, 0⟩, ⟨some p14, .nilck (.t p13), none, 1⟩, ⟨some p15, .faddr 2 (.t p14), none, 3⟩, ⟨some p16, .load1 (.t p15), none, 7⟩, ⟨some p17, .bin .neq (.t p16) (.c (.int .i64 (.ofNat 0))), none, 15⟩, ⟨some p12, .mov (.t p17), none, 31⟩] false)
 (.cond (.t p12) (.seq (.region [⟨some p18, .mov (.t p4), none, 0⟩, ⟨some p19, .mov (.t p0), none, 0⟩, ⟨some p20, .nilck (.t p19), none, 2⟩, ⟨some p21, .faddr 2 (.t p20), none, 6⟩, ⟨some p22, .load1 (.t p21), none, 14⟩, ⟨some p4, .mov (.t p18), none, 1⟩, ⟨some p5, .mov (.t p22), none, 63⟩] true)
 .ret) .skip)))))
 (.seq (.region [⟨some p24, .mov (.t p1), none, 0⟩, ⟨some p25, .mov (.t p0), none, 0⟩, ⟨some p26, .nilck (.t p25), none, 2⟩, ⟨some p27, .faddr 0 (.t p26), none, 6⟩, ⟨some p28, .load1 (.t p27), none, 14⟩, ⟨some p29, .mov (.t p0), none, 0⟩, ⟨some p30, .nilck (.t p29), none, 32⟩, ⟨some p31, .faddr 1 (.t p30), none, 96⟩, ⟨some p32, .load1 (.t p31), none, 224⟩, ⟨some p33, .slcS (.t p28) (some (.t p32)) none, none, 510⟩, ⟨some p34, .call (.t p24) [(.t p33)], none, 1023⟩, ⟨some p23, .mov (.t p34), none, 2047⟩, ⟨some p35, .ext 0 (.t p23), none, 4095⟩, ⟨some p36, .ext 1 (.t p23), none, 4095⟩, ⟨some p37, .ext 2 (.t p23), none, 4095⟩, ⟨some p6, .mov (.t p35), none, 8191⟩, ⟨some p7, .mov (.t p36), none, 49151⟩, ⟨some p5, .mov (.t p37), none, 131071⟩] true)
 (.seq (.seq (.region [⟨some p38, .mov (.t p5), none, 0⟩, ⟨some p39, .bin .neq (.t p38) (.c (.int .i64 (.ofNat 0))), none, 1⟩] false)
 (.cond (.t p39) (.seq (.region [⟨some p40, .mov (.t p0), none, 0⟩, ⟨some p41, .mov (.t p5), none, 0⟩, ⟨some p42, .nilck (.t p40), none, 3⟩, ⟨some p43, .faddr 2 (.t p42), none, 7⟩, ⟨none, .store 1 (.t p43) (.t p41), none, 15⟩] false)
 (.seq (.region [⟨some p44, .mov (.t p4), none, 0⟩, ⟨some p45, .mov (.t p5), none, 0⟩, ⟨some p4, .mov (.t p44), none, 1⟩, ⟨some p5, .mov (.t p45), none, 7⟩] false)
 .ret)) .skip))
 (.seq (.region [⟨some p46, .mov (.t p0), none, 0⟩, ⟨some p47, .nilck (.t p46), none, 1⟩, ⟨some p48, .faddr 1 (.t p47), none, 3⟩, ⟨some p49, .load1 (.t p48), none, 7⟩, ⟨some p50, .mov (.t p7), none, 0⟩, ⟨some p51, .bin .add (.t p49) (.t p50), none, 31⟩, ⟨some p52, .nilck (.t p46), none, 63⟩, ⟨some p53, .faddr 1 (.t p52), none, 127⟩, ⟨none, .store 1 (.t p53) (.t p51), none, 255⟩] false)
 (.seq (.region [⟨some p54, .mov (.t p6), none, 0⟩, ⟨some p4, .mov (.t p54), none, 1⟩, ⟨some p5, .mov (.c (.int .i64 (.ofNat 0))), none, 3⟩] false)
 .ret)))))) }
theorem ok155 : cFn Try.prog 155 = some ef155 := by kernel_rfl
/-- (*bytes.Reader).Num$1 -/
def ef156 : EFn := { id := 156, N := 25, res := [(p3, none), (p4, none), (p5, none)], code := (.seq (.region [⟨some p3, .mov (.c (.int .u64 (.ofNat 0))), none, 0⟩, ⟨some p4, .mov (.c (.int .i64 (.ofNat 0))), none, 1⟩, ⟨some p5, .mov (.c (.int .i64 (.ofNat 0))), none, 3⟩] false)
 (.seq (.region [⟨some p10, .mov (.t p0), none, 0⟩, ⟨some p11, .call (.c (.fn 68 [] [])) [(.t p10)], none, 1⟩, ⟨some p9, .mov (.t p11), none, 3⟩, ⟨some p12, .ext 0 (.t p9), none, 7⟩, ⟨some p13, .ext 1 (.t p9), none, 7⟩, ⟨some p14, .ext 2 (.t p9), none, 7⟩, ⟨some p6, .mov (.t p12), none, 15⟩, ⟨some p7, .mov (.t p13), none, 95⟩, ⟨some p8, .mov (.t p14), none, 255⟩] false)
 (.seq (.seq (.region [⟨some p15, .mov (.t p8), none, 0⟩, ⟨some p16, .bin .eql (.t p15) (.c (.int .i64 (.ofNat 0))), none, 1⟩, ⟨some p17, .mov (.t p16), none, 3⟩, ⟨some p18, .mov (.t p6), some (p17, true), 7⟩, ⟨some p19, .load1 (.t p1), some (p17, true), 7⟩, ⟨some p20, .bin .gtr (.t p18) (.t p19), some (p17, true), 31⟩, ⟨some p21, .pick (.t p17) (.t p20) (.c (.bool false)), none, 63⟩] false)
 (.cond (.t p21) (.region [⟨some p8, .mov (.c (.int .i64 (.ofNat 20))), none, 0⟩] false) .skip))
 (.seq (.region [⟨some p22, .mov (.t p6), none, 0⟩, ⟨some p23, .mov (.t p7), none, 0⟩, ⟨some p24, .mov (.t p8), none, 0⟩, ⟨some p3, .mov (.t p22), none, 1⟩, ⟨some p4, .mov (.t p23), none, 11⟩, ⟨some p5, .mov (.t p24), none, 31⟩] false)
 .ret)))) }
theorem ok156 : cFn Try.prog 156 = some ef156 := by kernel_rfl
/-- (pack.reader).deep -/
def ef157 : EFn := { id := 157, N := 25, res := [(p8, none)], code := (.seq (.region [⟨some p4, .box (.t p0), none, 0⟩, ⟨some p8, .mov (.c (.int .i64 (.ofNat 0))), none, 0⟩] false)
 (.seq (.region [⟨some p11, .faddr 0 (.t p4), none, 0⟩, ⟨some p12, .load1 (.t p11), none, 1⟩, ⟨some p13, .call (.c (.fn 142 [] [])) [(.t p12)], none, 3⟩, ⟨some p9, .mov (.t p13), none, 7⟩] false)
 (.seq (.region [⟨some p14, .loadN 1 (.t p4), none, 0⟩, ⟨some p15, .mov (.t p1), none, 0⟩, ⟨some p16, .mov (.t p2), none, 0⟩, ⟨some p17, .call (.c (.fn 126 [] [])) [(.t p14), (.t p15), (.t p16)], none, 7⟩, ⟨some p10, .mov (.t p17), none, 15⟩] false)
 (.seq (.seq (.region [⟨some p18, .mov (.t p3), none, 0⟩, ⟨some p19, .bin .gtr (.t p18) (.c (.int .i64 (.ofNat 6))), none, 1⟩] false)
 (.cond (.t p19) (.region [⟨some p20, .faddr 0 (.t p4), none, 0⟩, ⟨some p21, .load1 (.t p20), none, 1⟩, ⟨some p22, .mov (.t p9), none, 0⟩, ⟨some p23, .call (.c (.fn 144 [] [])) [(.t p21), (.t p22), (.c (.int .i64 (.ofNat 40)))], none, 7⟩] false) .skip))
 (.seq (.region [⟨some p24, .mov (.t p10), none, 0⟩, ⟨some p8, .mov (.t p24), none, 1⟩] false)
 .ret))))) }
theorem ok157 : cFn Try.prog 157 = some ef157 := by kernel_rfl
/-- slices.IndexFunc[[]api.Expr,api.Expr] -/
def ef158 : EFn := { id := 158, N := 19, res := [(p4, none)], code := (.seq (.region [⟨some p4, .mov (.c (.int .i64 (.ofNat 0))), none, 0⟩] false)
 (.seq (.seq (.region [⟨some p6, .mov (.t p0), none, 0⟩, ⟨some p7, .len false (.t p6), none, 1⟩, ⟨some p8, .mov (.c (.int .i64 (.ofNat 0))), none, 0⟩] false)
 (.block 0 (.loop (.seq (.region [⟨some p9, .bin .lss (.t p8) (.t p7), none, 0⟩] false)
 (.seq (.cond (.t p9) .skip (.exit 0))
 (.seq (.block 1 (.seq (.region [⟨some p10, .mov (.t p8), none, 0⟩, ⟨some p5, .mov (.t p10), none, 1⟩] false)
 (.seq (.region [⟨some p11, .mov (.t p1), none, 0⟩, ⟨some p12, .mov (.t p0), none, 0⟩, ⟨some p13, .mov (.t p5), none, 0⟩, ⟨some p14, .iaddrS 3 (.t p12) (.t p13), none, 6⟩, ⟨some p15, .loadN 3 (.t p14), none, 14⟩, ⟨some p16, .call (.t p11) [(.t p15)], none, 31⟩] false)
 (.cond (.t p16) (.seq (.region [⟨some p17, .mov (.t p5), none, 0⟩, ⟨some p4, .mov (.t p17), none, 1⟩] false)
 .ret) .skip))))
 (.region [⟨some p18, .bin .add (.t p8) (.c (.int .i64 (.ofNat 1))), none, 0⟩, ⟨some p8, .mov (.t p18), none, 1⟩] false)))))))
 (.seq (.region [⟨some p4, .mov (.c (.int .i64 (.negSucc 0))), none, 0⟩] false)
 .ret))) }
theorem ok158 : cFn Try.prog 158 = some ef158 := by kernel_rfl
noncomputable def ft : Tri EFn := mkFT [ef16, ef37, ef42, ef43, ef46, ef53, ef55, ef56, ef57, ef58, ef59, ef60, ef61, ef63, ef68, ef70, ef72, ef73, ef77, ef91, ef92, ef94, ef95, ef96, ef97, ef98, ef99, ef100, ef101, ef102, ef107, ef108, ef109, ef110, ef111, ef112, ef113, ef121, ef122, ef123, ef124, ef125, ef126, ef127, ef128, ef129, ef130, ef131, ef134, ef135, ef136, ef141, ef142, ef143, ef144, ef145, ef146, ef149, ef150, ef151, ef155, ef156, ef157, ef158]
theorem ftok : FTok Try.prog ft := FTok.cons ok16 (FTok.cons ok37 (FTok.cons ok42 (FTok.cons ok43 (FTok.cons ok46 (FTok.cons ok53 (FTok.cons ok55 (FTok.cons ok56 (FTok.cons ok57 (FTok.cons ok58 (FTok.cons ok59 (FTok.cons ok60 (FTok.cons ok61 (FTok.cons ok63 (FTok.cons ok68 (FTok.cons ok70 (FTok.cons ok72 (FTok.cons ok73 (FTok.cons ok77 (FTok.cons ok91 (FTok.cons ok92 (FTok.cons ok94 (FTok.cons ok95 (FTok.cons ok96 (FTok.cons ok97 (FTok.cons ok98 (FTok.cons ok99 (FTok.cons ok100 (FTok.cons ok101 (FTok.cons ok102 (FTok.cons ok107 (FTok.cons ok108 (FTok.cons ok109 (FTok.cons ok110 (FTok.cons ok111 (FTok.cons ok112 (FTok.cons ok113 (FTok.cons ok121 (FTok.cons ok122 (FTok.cons ok123 (FTok.cons ok124 (FTok.cons ok125 (FTok.cons ok126 (FTok.cons ok127 (FTok.cons ok128 (FTok.cons ok129 (FTok.cons ok130 (FTok.cons ok131 (FTok.cons ok134 (FTok.cons ok135 (FTok.cons ok136 (FTok.cons ok141 (FTok.cons ok142 (FTok.cons ok143 (FTok.cons ok144 (FTok.cons ok145 (FTok.cons ok146 (FTok.cons ok149 (FTok.cons ok150 (FTok.cons ok151 (FTok.cons ok155 (FTok.cons ok156 (FTok.cons ok157 (FTok.cons ok158 (FTok.nil _))))))))))))))))))))))))))))))))))))))))))))))))))))))))))))))))
end Go.Proofs.Ytonckpblbdopmaa.Rk
