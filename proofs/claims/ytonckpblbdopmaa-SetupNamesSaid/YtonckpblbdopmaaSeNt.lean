/-
  The functions as they are reckoned: printed by tools/gen_rk.py out of the program's own form; each is held against it.
-/
import Derived.Test.YtonckpblbdopmaaRkp
import Derived.Test.YtonckpblbdopmaaProg
namespace Go.Proofs.Ytonckpblbdopmaa.Rk
set_option linter.unusedVariables false
open Go
set_option maxRecDepth 100000
set_option maxHeartbeats 4000000

def p0 : Pt := .e
def p1 : Pt := .l (.e)
def p2 : Pt := .r (.e)
def p3 : Pt := .l (.l (.e))
def p4 : Pt := .r (.l (.e))
def p5 : Pt := .l (.r (.e))
def p6 : Pt := .r (.r (.e))
def p7 : Pt := .l (.l (.l (.e)))
def p8 : Pt := .r (.l (.l (.e)))
def p9 : Pt := .l (.r (.l (.e)))
def p10 : Pt := .r (.r (.l (.e)))
def p11 : Pt := .l (.l (.r (.e)))
def p12 : Pt := .r (.l (.r (.e)))
def p13 : Pt := .l (.r (.r (.e)))
def p14 : Pt := .r (.r (.r (.e)))
def p15 : Pt := .l (.l (.l (.l (.e))))
def p16 : Pt := .r (.l (.l (.l (.e))))
def p17 : Pt := .l (.r (.l (.l (.e))))
def p18 : Pt := .r (.r (.l (.l (.e))))
def p19 : Pt := .l (.l (.r (.l (.e))))
def p20 : Pt := .r (.l (.r (.l (.e))))
def p21 : Pt := .l (.r (.r (.l (.e))))
def p22 : Pt := .r (.r (.r (.l (.e))))
def p23 : Pt := .l (.l (.l (.r (.e))))
def p24 : Pt := .r (.l (.l (.r (.e))))
def p25 : Pt := .l (.r (.l (.r (.e))))
def p26 : Pt := .r (.r (.l (.r (.e))))
def p27 : Pt := .l (.l (.r (.r (.e))))
def p28 : Pt := .r (.l (.r (.r (.e))))
def p29 : Pt := .l (.r (.r (.r (.e))))
def p30 : Pt := .r (.r (.r (.r (.e))))
def p31 : Pt := .l (.l (.l (.l (.l (.e)))))
def p32 : Pt := .r (.l (.l (.l (.l (.e)))))
def p33 : Pt := .l (.r (.l (.l (.l (.e)))))
def p34 : Pt := .r (.r (.l (.l (.l (.e)))))
def p35 : Pt := .l (.l (.r (.l (.l (.e)))))
def p36 : Pt := .r (.l (.r (.l (.l (.e)))))
def p37 : Pt := .l (.r (.r (.l (.l (.e)))))
def p38 : Pt := .r (.r (.r (.l (.l (.e)))))
def p39 : Pt := .l (.l (.l (.r (.l (.e)))))
def p40 : Pt := .r (.l (.l (.r (.l (.e)))))
def p41 : Pt := .l (.r (.l (.r (.l (.e)))))
def p42 : Pt := .r (.r (.l (.r (.l (.e)))))
def p43 : Pt := .l (.l (.r (.r (.l (.e)))))
def p44 : Pt := .r (.l (.r (.r (.l (.e)))))
def p45 : Pt := .l (.r (.r (.r (.l (.e)))))
def p46 : Pt := .r (.r (.r (.r (.l (.e)))))
def p47 : Pt := .l (.l (.l (.l (.r (.e)))))
def p48 : Pt := .r (.l (.l (.l (.r (.e)))))
def p49 : Pt := .l (.r (.l (.l (.r (.e)))))
def p50 : Pt := .r (.r (.l (.l (.r (.e)))))
def p51 : Pt := .l (.l (.r (.l (.r (.e)))))
def p52 : Pt := .r (.l (.r (.l (.r (.e)))))
def p53 : Pt := .l (.r (.r (.l (.r (.e)))))
def p54 : Pt := .r (.r (.r (.l (.r (.e)))))
def p55 : Pt := .l (.l (.l (.r (.r (.e)))))
def p56 : Pt := .r (.l (.l (.r (.r (.e)))))
def p57 : Pt := .l (.r (.l (.r (.r (.e)))))
def p58 : Pt := .r (.r (.l (.r (.r (.e)))))
def p59 : Pt := .l (.l (.r (.r (.r (.e)))))
def p60 : Pt := .r (.l (.r (.r (.r (.e)))))
def p61 : Pt := .l (.r (.r (.r (.r (.e)))))
def p62 : Pt := .r (.r (.r (.r (.r (.e)))))
def p63 : Pt := .l (.l (.l (.l (.l (.l (.e))))))
def p64 : Pt := .r (.l (.l (.l (.l (.l (.e))))))
def p65 : Pt := .l (.r (.l (.l (.l (.l (.e))))))
def p66 : Pt := .r (.r (.l (.l (.l (.l (.e))))))
def p67 : Pt := .l (.l (.r (.l (.l (.l (.e))))))
def p68 : Pt := .r (.l (.r (.l (.l (.l (.e))))))
def p69 : Pt := .l (.r (.r (.l (.l (.l (.e))))))
def p70 : Pt := .r (.r (.r (.l (.l (.l (.e))))))
def p71 : Pt := .l (.l (.l (.r (.l (.l (.e))))))
def p72 : Pt := .r (.l (.l (.r (.l (.l (.e))))))
def p73 : Pt := .l (.r (.l (.r (.l (.l (.e))))))
def p74 : Pt := .r (.r (.l (.r (.l (.l (.e))))))
def p75 : Pt := .l (.l (.r (.r (.l (.l (.e))))))
def p76 : Pt := .r (.l (.r (.r (.l (.l (.e))))))
def p77 : Pt := .l (.r (.r (.r (.l (.l (.e))))))
def p78 : Pt := .r (.r (.r (.r (.l (.l (.e))))))
def p79 : Pt := .l (.l (.l (.l (.r (.l (.e))))))
def p80 : Pt := .r (.l (.l (.l (.r (.l (.e))))))
def p81 : Pt := .l (.r (.l (.l (.r (.l (.e))))))
def p82 : Pt := .r (.r (.l (.l (.r (.l (.e))))))
def p83 : Pt := .l (.l (.r (.l (.r (.l (.e))))))
def p84 : Pt := .r (.l (.r (.l (.r (.l (.e))))))
def p85 : Pt := .l (.r (.r (.l (.r (.l (.e))))))
def p86 : Pt := .r (.r (.r (.l (.r (.l (.e))))))
def p87 : Pt := .l (.l (.l (.r (.r (.l (.e))))))
def p88 : Pt := .r (.l (.l (.r (.r (.l (.e))))))
def p89 : Pt := .l (.r (.l (.r (.r (.l (.e))))))
def p90 : Pt := .r (.r (.l (.r (.r (.l (.e))))))
def p91 : Pt := .l (.l (.r (.r (.r (.l (.e))))))
def p92 : Pt := .r (.l (.r (.r (.r (.l (.e))))))
def p93 : Pt := .l (.r (.r (.r (.r (.l (.e))))))
def p94 : Pt := .r (.r (.r (.r (.r (.l (.e))))))
def p95 : Pt := .l (.l (.l (.l (.l (.r (.e))))))
def p96 : Pt := .r (.l (.l (.l (.l (.r (.e))))))
def p97 : Pt := .l (.r (.l (.l (.l (.r (.e))))))
def p98 : Pt := .r (.r (.l (.l (.l (.r (.e))))))
def p99 : Pt := .l (.l (.r (.l (.l (.r (.e))))))
def p100 : Pt := .r (.l (.r (.l (.l (.r (.e))))))
def p101 : Pt := .l (.r (.r (.l (.l (.r (.e))))))
def p102 : Pt := .r (.r (.r (.l (.l (.r (.e))))))
def p103 : Pt := .l (.l (.l (.r (.l (.r (.e))))))
def p104 : Pt := .r (.l (.l (.r (.l (.r (.e))))))
def p105 : Pt := .l (.r (.l (.r (.l (.r (.e))))))
def p106 : Pt := .r (.r (.l (.r (.l (.r (.e))))))
def p107 : Pt := .l (.l (.r (.r (.l (.r (.e))))))
def p108 : Pt := .r (.l (.r (.r (.l (.r (.e))))))
def p109 : Pt := .l (.r (.r (.r (.l (.r (.e))))))
def p110 : Pt := .r (.r (.r (.r (.l (.r (.e))))))
def p111 : Pt := .l (.l (.l (.l (.r (.r (.e))))))
def p112 : Pt := .r (.l (.l (.l (.r (.r (.e))))))
def p113 : Pt := .l (.r (.l (.l (.r (.r (.e))))))
def p114 : Pt := .r (.r (.l (.l (.r (.r (.e))))))
def p115 : Pt := .l (.l (.r (.l (.r (.r (.e))))))
def p116 : Pt := .r (.l (.r (.l (.r (.r (.e))))))
def p117 : Pt := .l (.r (.r (.l (.r (.r (.e))))))
def p118 : Pt := .r (.r (.r (.l (.r (.r (.e))))))
def p119 : Pt := .l (.l (.l (.r (.r (.r (.e))))))
def p120 : Pt := .r (.l (.l (.r (.r (.r (.e))))))
def p121 : Pt := .l (.r (.l (.r (.r (.r (.e))))))
def p122 : Pt := .r (.r (.l (.r (.r (.r (.e))))))
def p123 : Pt := .l (.l (.r (.r (.r (.r (.e))))))
def p124 : Pt := .r (.l (.r (.r (.r (.r (.e))))))
def p125 : Pt := .l (.r (.r (.r (.r (.r (.e))))))
def p126 : Pt := .r (.r (.r (.r (.r (.r (.e))))))
def p127 : Pt := .l (.l (.l (.l (.l (.l (.l (.e)))))))
def p128 : Pt := .r (.l (.l (.l (.l (.l (.l (.e)))))))
def p129 : Pt := .l (.r (.l (.l (.l (.l (.l (.e)))))))
def p130 : Pt := .r (.r (.l (.l (.l (.l (.l (.e)))))))
def p131 : Pt := .l (.l (.r (.l (.l (.l (.l (.e)))))))
def p132 : Pt := .r (.l (.r (.l (.l (.l (.l (.e)))))))
def p133 : Pt := .l (.r (.r (.l (.l (.l (.l (.e)))))))
def p134 : Pt := .r (.r (.r (.l (.l (.l (.l (.e)))))))
def p135 : Pt := .l (.l (.l (.r (.l (.l (.l (.e)))))))
def p136 : Pt := .r (.l (.l (.r (.l (.l (.l (.e)))))))
def p137 : Pt := .l (.r (.l (.r (.l (.l (.l (.e)))))))
def p138 : Pt := .r (.r (.l (.r (.l (.l (.l (.e)))))))
def p139 : Pt := .l (.l (.r (.r (.l (.l (.l (.e)))))))
def p140 : Pt := .r (.l (.r (.r (.l (.l (.l (.e)))))))
def p141 : Pt := .l (.r (.r (.r (.l (.l (.l (.e)))))))
def p142 : Pt := .r (.r (.r (.r (.l (.l (.l (.e)))))))
def p143 : Pt := .l (.l (.l (.l (.r (.l (.l (.e)))))))
def p144 : Pt := .r (.l (.l (.l (.r (.l (.l (.e)))))))
def p145 : Pt := .l (.r (.l (.l (.r (.l (.l (.e)))))))
def p146 : Pt := .r (.r (.l (.l (.r (.l (.l (.e)))))))
def p147 : Pt := .l (.l (.r (.l (.r (.l (.l (.e)))))))
def p148 : Pt := .r (.l (.r (.l (.r (.l (.l (.e)))))))
def p149 : Pt := .l (.r (.r (.l (.r (.l (.l (.e)))))))
def p150 : Pt := .r (.r (.r (.l (.r (.l (.l (.e)))))))
def p151 : Pt := .l (.l (.l (.r (.r (.l (.l (.e)))))))
def p152 : Pt := .r (.l (.l (.r (.r (.l (.l (.e)))))))
def p153 : Pt := .l (.r (.l (.r (.r (.l (.l (.e)))))))
def p154 : Pt := .r (.r (.l (.r (.r (.l (.l (.e)))))))
def p155 : Pt := .l (.l (.r (.r (.r (.l (.l (.e)))))))
def p156 : Pt := .r (.l (.r (.r (.r (.l (.l (.e)))))))
/-- seesawlaw06.SetupNames -/
def ef11 : EFn := { id := 11, N := 157, res := [(p0, none)], code := (.seq (.region [⟨some p0, .mov (.c (.bool false)), none, 0⟩] false)
 (.seq (.region [⟨some p18, .mksl [(.int .i64 (.ofNat 0))] 8 (.c (.int .i64 (.ofNat 32))) (.c (.int .i64 (.ofNat 32))), none, 0⟩, ⟨some p19, .mksl [.nils] 24 (.c (.int .i64 (.ofNat 6))) (.c (.int .i64 (.ofNat 6))), none, 0⟩, ⟨some p20, .build [(.int .i64 (.ofNat 0)), (.int .i64 (.ofNat 0)), (.int .i64 (.ofNat 0)), .nils, .nils] [(0, 1, (.c (.int .i64 (.ofNat 32)))), (1, 1, (.c (.int .i64 (.ofNat 1099511627776)))), (2, 1, (.c (.int .i64 (.ofNat 1000)))), (3, 1, (.t p18)), (4, 1, (.t p19))], none, 3⟩, ⟨some p1, .alloc [(.int .i64 (.ofNat 0)), (.int .i64 (.ofNat 0)), (.int .i64 (.ofNat 0)), .nils, .nils], none, 0⟩, ⟨none, .store 5 (.t p1) (.t p20), none, 15⟩] true)
 (.seq (.seq (.region [⟨some p2, .mov (.c (.int .i64 (.ofNat 0))), none, 0⟩] false)
 (.block 0 (.loop (.seq (.seq (.region [⟨some p21, .mov (.t p2), none, 0⟩, ⟨some p22, .bin .lss (.t p21) (.c (.int .i64 (.ofNat 6))), none, 1⟩] false)
 (.cond (.t p22) .skip (.exit 0)))
 (.seq (.block 1 (.region [⟨some p25, .faddr 4 (.t p1), none, 0⟩, ⟨some p26, .load1 (.t p25), none, 1⟩, ⟨some p27, .mov (.t p2), none, 0⟩, ⟨some p28, .mksl [.nils] 24 (.c (.int .i64 (.ofNat 6))) (.c (.int .i64 (.ofNat 6))), none, 0⟩, ⟨some p29, .iaddrS 1 (.t p26) (.t p27), none, 15⟩, ⟨none, .store 1 (.t p29) (.t p28), none, 31⟩] true))
 (.region [⟨some p23, .mov (.t p2), none, 0⟩, ⟨some p24, .bin .add (.t p23) (.c (.int .i64 (.ofNat 1))), none, 1⟩, ⟨some p2, .mov (.t p24), none, 3⟩] false))))))
 (.seq (.seq (.region [⟨some p30, .loadN 5 (.t p1), none, 0⟩, ⟨some p31, .call (.c (.fn 46 [] [])) [(.t p30)], none, 1⟩, ⟨some p32, .bin .neq (.t p31) (.c (.int .i64 (.ofNat 0))), none, 3⟩] false)
 (.cond (.t p32) (.seq (.region [⟨some p0, .mov (.c (.bool false)), none, 0⟩] false)
 .ret) .skip))
 (.seq (.seq (.region [⟨some p3, .mov (.c (.int .i64 (.ofNat 0))), none, 0⟩] false)
 (.block 2 (.loop (.seq (.seq (.region [⟨some p33, .mov (.t p3), none, 0⟩, ⟨some p34, .bin .lss (.t p33) (.c (.int .i64 (.ofNat 9))), none, 1⟩] false)
 (.cond (.t p34) .skip (.exit 2)))
 (.seq (.block 3 (.seq (.region [⟨some p37, .loadN 5 (.t p1), none, 0⟩, ⟨some p38, .call (.c (.fn 47 [] [])) [(.t p37)], none, 1⟩, ⟨some p4, .alloc [(.int .i64 (.ofNat 0)), (.int .i64 (.ofNat 0)), (.int .i64 (.ofNat 0)), .nils, .nils], none, 0⟩, ⟨none, .store 5 (.t p4) (.t p38), none, 7⟩] false)
 (.seq (.seq (.region [⟨some p39, .mov (.t p3), none, 0⟩] false)
 (.block 4 (.seq (.region [⟨some p43, .bin .eql (.t p39) (.c (.int .i64 (.ofNat 0))), none, 0⟩, ⟨some p42, .mov (.t p43), none, 1⟩] false)
 (.cond (.t p42) (.region [⟨some p44, .faddr 3 (.t p4), none, 0⟩, ⟨none, .store 1 (.t p44) (.c .nils), none, 1⟩] false) (.seq (.region [⟨some p46, .bin .eql (.t p39) (.c (.int .i64 (.ofNat 1))), none, 0⟩, ⟨some p45, .mov (.t p46), none, 1⟩] false)
 (.cond (.t p45) (.region [⟨some p47, .mksl [(.int .i64 (.ofNat 0))] 8 (.c (.int .i64 (.ofNat 33))) (.c (.int .i64 (.ofNat 33))), none, 0⟩, ⟨some p48, .faddr 3 (.t p4), none, 1⟩, ⟨none, .store 1 (.t p48) (.t p47), none, 3⟩] false) (.seq (.region [⟨some p50, .bin .eql (.t p39) (.c (.int .i64 (.ofNat 2))), none, 0⟩, ⟨some p49, .mov (.t p50), none, 1⟩] false)
 (.cond (.t p49) (.region [⟨some p51, .faddr 0 (.t p4), none, 0⟩, ⟨none, .store 1 (.t p51) (.c (.int .i64 (.ofNat 0))), none, 1⟩] false) (.seq (.region [⟨some p53, .bin .eql (.t p39) (.c (.int .i64 (.ofNat 3))), none, 0⟩, ⟨some p52, .mov (.t p53), none, 1⟩] false)
 (.cond (.t p52) (.region [⟨some p54, .faddr 0 (.t p4), none, 0⟩, ⟨none, .store 1 (.t p54) (.c (.int .i64 (.ofNat 33))), none, 1⟩] false) (.seq (.region [⟨some p56, .bin .eql (.t p39) (.c (.int .i64 (.ofNat 4))), none, 0⟩, ⟨some p55, .mov (.t p56), none, 1⟩] false)
 (.cond (.t p55) (.region [⟨some p57, .faddr 1 (.t p4), none, 0⟩, ⟨none, .store 1 (.t p57) (.c (.int .i64 (.negSucc 0))), none, 1⟩] false) (.seq (.region [⟨some p59, .bin .eql (.t p39) (.c (.int .i64 (.ofNat 5))), none, 0⟩, ⟨some p58, .mov (.t p59), none, 1⟩] false)
 (.cond (.t p58) (.region [⟨some p60, .faddr 1 (.t p4), none, 0⟩, ⟨none, .store 1 (.t p60) (.c (.int .i64 (.ofNat 1099511627777))), none, 1⟩] false) (.seq (.region [⟨some p62, .bin .eql (.t p39) (.c (.int .i64 (.ofNat 6))), none, 0⟩, ⟨some p61, .mov (.t p62), none, 1⟩] false)
 (.cond (.t p61) (.region [⟨some p63, .faddr 2 (.t p4), none, 0⟩, ⟨none, .store 1 (.t p63) (.c (.int .i64 (.ofNat 0))), none, 1⟩] false) (.seq (.region [⟨some p65, .bin .eql (.t p39) (.c (.int .i64 (.ofNat 7))), none, 0⟩, ⟨some p64, .mov (.t p65), none, 1⟩] false)
 (.cond (.t p64) (.region [⟨some p66, .faddr 2 (.t p4), none, 0⟩, ⟨none, .store 1 (.t p66) (.c (.int .i64 (.ofNat 1001))), none, 1⟩] false) (.region [⟨some p40, .mksl [.nils] 24 (.c (.int .i64 (.ofNat 7))) (.c (.int .i64 (.ofNat 7))), none, 0⟩, ⟨some p41, .faddr 4 (.t p4), none, 1⟩, ⟨none, .store 1 (.t p41) (.t p40), none, 3⟩] false)))))))))))))))))))
 (.seq (.region [⟨some p67, .loadN 5 (.t p4), none, 0⟩, ⟨some p68, .call (.c (.fn 46 [] [])) [(.t p67)], none, 1⟩, ⟨some p69, .bin .neq (.t p68) (.c (.int .i64 (.ofNat 4))), none, 3⟩] false)
 (.cond (.t p69) (.seq (.region [⟨some p0, .mov (.c (.bool false)), none, 0⟩] false)
 .ret) .skip)))))
 (.region [⟨some p35, .mov (.t p3), none, 0⟩, ⟨some p36, .bin .add (.t p35) (.c (.int .i64 (.ofNat 1))), none, 1⟩, ⟨some p3, .mov (.t p36), none, 3⟩] false))))))
 (.seq (.region [⟨some p70, .loadN 5 (.t p1), none, 0⟩, ⟨some p71, .call (.c (.fn 47 [] [])) [(.t p70)], none, 1⟩, ⟨some p5, .alloc [(.int .i64 (.ofNat 0)), (.int .i64 (.ofNat 0)), (.int .i64 (.ofNat 0)), .nils, .nils], none, 0⟩, ⟨none, .store 5 (.t p5) (.t p71), none, 7⟩] false)
 (.seq (.region [⟨some p72, .faddr 4 (.t p5), none, 0⟩, ⟨some p73, .load1 (.t p72), none, 1⟩, ⟨some p74, .mksl [.nils] 24 (.c (.int .i64 (.ofNat 7))) (.c (.int .i64 (.ofNat 7))), none, 0⟩, ⟨some p75, .iaddrS 1 (.t p73) (.c (.int .i64 (.ofNat 2))), none, 7⟩, ⟨none, .store 1 (.t p75) (.t p74), none, 15⟩] true)
 (.seq (.region [⟨some p76, .loadN 5 (.t p1), none, 0⟩, ⟨some p77, .call (.c (.fn 47 [] [])) [(.t p76)], none, 1⟩, ⟨some p6, .alloc [(.int .i64 (.ofNat 0)), (.int .i64 (.ofNat 0)), (.int .i64 (.ofNat 0)), .nils, .nils], none, 0⟩, ⟨none, .store 5 (.t p6) (.t p77), none, 7⟩] false)
 (.seq (.region [⟨some p78, .faddr 4 (.t p6), none, 0⟩, ⟨some p79, .load1 (.t p78), none, 1⟩, ⟨some p80, .iaddrS 1 (.t p79) (.c (.int .i64 (.ofNat 1))), none, 3⟩, ⟨some p81, .load1 (.t p80), none, 7⟩, ⟨some p82, .build [(.int .u8 (.ofNat 0)), (.int .i64 (.ofNat 0)), .nils] [(0, 1, (.c (.int .u8 (.ofNat 3))))], none, 0⟩, ⟨some p83, .build [(.int .u8 (.ofNat 0)), (.int .i64 (.ofNat 0)), (.int .u8 (.ofNat 0)), (.int .i64 (.ofNat 0)), .nils, (.int .u8 (.ofNat 0)), (.int .i64 (.ofNat 0)), .nils, .nils, .nils] [(0, 1, (.c (.int .u8 (.ofNat 8)))), (2, 3, (.t p82))], none, 16⟩, ⟨some p84, .buildSl [(.int .u8 (.ofNat 0)), (.int .i64 (.ofNat 0)), (.int .u8 (.ofNat 0)), (.int .i64 (.ofNat 0)), .nils, (.int .u8 (.ofNat 0)), (.int .i64 (.ofNat 0)), .nils, .nils, .nils] 1 [(0, 10, (.t p83))], none, 48⟩, ⟨some p85, .iaddrS 1 (.t p81) (.c (.int .i64 (.ofNat 0))), none, 127⟩, ⟨none, .store 1 (.t p85) (.t p84), none, 255⟩] false)
 (.seq (.region [⟨some p86, .loadN 5 (.t p1), none, 0⟩, ⟨some p87, .call (.c (.fn 47 [] [])) [(.t p86)], none, 1⟩, ⟨some p7, .alloc [(.int .i64 (.ofNat 0)), (.int .i64 (.ofNat 0)), (.int .i64 (.ofNat 0)), .nils, .nils], none, 0⟩, ⟨none, .store 5 (.t p7) (.t p87), none, 7⟩] false)
 (.seq (.region [⟨some p88, .faddr 4 (.t p7), none, 0⟩, ⟨some p89, .load1 (.t p88), none, 1⟩, ⟨some p90, .iaddrS 1 (.t p89) (.c (.int .i64 (.ofNat 1))), none, 3⟩, ⟨some p91, .load1 (.t p90), none, 7⟩, ⟨some p92, .build [(.int .u8 (.ofNat 0)), (.int .i64 (.ofNat 0)), .nils] [(0, 1, (.c (.int .u8 (.ofNat 3))))], none, 0⟩, ⟨some p93, .build [(.int .u8 (.ofNat 0)), (.int .i64 (.ofNat 0)), (.int .u8 (.ofNat 0)), (.int .i64 (.ofNat 0)), .nils, (.int .u8 (.ofNat 0)), (.int .i64 (.ofNat 0)), .nils, .nils, .nils] [(0, 1, (.c (.int .u8 (.ofNat 8)))), (2, 3, (.t p92))], none, 16⟩, ⟨some p94, .buildSl [(.int .u8 (.ofNat 0)), (.int .i64 (.ofNat 0)), (.int .u8 (.ofNat 0)), (.int .i64 (.ofNat 0)), .nils, (.int .u8 (.ofNat 0)), (.int .i64 (.ofNat 0)), .nils, .nils, .nils] 1 [(0, 10, (.t p93))], none, 48⟩, ⟨some p95, .iaddrS 1 (.t p91) (.c (.int .i64 (.ofNat 1))), none, 127⟩, ⟨none, .store 1 (.t p95) (.t p94), none, 255⟩] false)
 (.seq (.region [⟨some p97, .call (.c (.fn 29 [] [])) [(.c (.int .i64 (.negSucc 0))), (.c (.int .i64 (.ofNat 3)))], none, 0⟩, ⟨some p96, .mov (.t p97), none, 1⟩, ⟨some p98, .ext 0 (.t p96), none, 3⟩, ⟨some p99, .ext 1 (.t p96), none, 3⟩, ⟨some p8, .mov (.t p98), none, 7⟩, ⟨some p9, .mov (.t p99), none, 31⟩] false)
 (.seq (.region [⟨some p101, .call (.c (.fn 29 [] [])) [(.c (.int .i64 (.ofNat 1))), (.c (.int .i64 (.ofNat 0)))], none, 0⟩, ⟨some p100, .mov (.t p101), none, 1⟩, ⟨some p102, .ext 0 (.t p100), none, 3⟩, ⟨some p103, .ext 1 (.t p100), none, 3⟩, ⟨some p10, .mov (.t p102), none, 7⟩, ⟨some p11, .mov (.t p103), none, 31⟩] false)
 (.seq (.region [⟨some p105, .call (.c (.fn 31 [] [])) [(.c (.int .i64 (.ofNat 3))), (.c (.int .i64 (.ofNat 3))), (.c (.int .i64 (.ofNat 9)))], none, 0⟩, ⟨some p104, .mov (.t p105), none, 1⟩, ⟨some p106, .ext 0 (.t p104), none, 3⟩, ⟨some p107, .ext 1 (.t p104), none, 3⟩, ⟨some p12, .mov (.t p106), none, 7⟩, ⟨some p13, .mov (.t p107), none, 31⟩] false)
 (.seq (.region [⟨some p109, .call (.c (.fn 31 [] [])) [(.c (.int .i64 (.negSucc 0))), (.c (.int .i64 (.ofNat 3))), (.c (.int .i64 (.ofNat 9)))], none, 0⟩, ⟨some p108, .mov (.t p109), none, 1⟩, ⟨some p110, .ext 0 (.t p108), none, 3⟩, ⟨some p111, .ext 1 (.t p108), none, 3⟩, ⟨some p14, .mov (.t p110), none, 7⟩, ⟨some p15, .mov (.t p111), none, 31⟩] false)
 (.seq (.region [⟨some p113, .call (.c (.fn 31 [] [])) [(.c (.int .i64 (.ofNat 0))), (.c (.int .i64 (.ofNat 1))), (.c (.int .i64 (.ofNat 0)))], none, 0⟩, ⟨some p112, .mov (.t p113), none, 1⟩, ⟨some p114, .ext 0 (.t p112), none, 3⟩, ⟨some p115, .ext 1 (.t p112), none, 3⟩, ⟨some p16, .mov (.t p114), none, 7⟩, ⟨some p17, .mov (.t p115), none, 31⟩] false)
 (.seq (.region [⟨some p116, .loadN 5 (.t p5), none, 0⟩, ⟨some p117, .call (.c (.fn 46 [] [])) [(.t p116)], none, 1⟩, ⟨some p118, .bin .eql (.t p117) (.c (.int .i64 (.ofNat 4))), none, 3⟩, ⟨some p119, .mov (.t p118), none, 7⟩, ⟨some p120, .loadN 5 (.t p6), some (p119, true), 15⟩, ⟨some p121, .call (.c (.fn 46 [] [])) [(.t p120)], some (p119, true), 31⟩, ⟨some p122, .bin .eql (.t p121) (.c (.int .i64 (.ofNat 4))), some (p119, true), 63⟩, ⟨some p123, .pick (.t p119) (.t p122) (.c (.bool false)), none, 127⟩, ⟨some p124, .mov (.t p123), none, 255⟩, ⟨some p125, .loadN 5 (.t p7), some (p124, true), 511⟩, ⟨some p126, .call (.c (.fn 46 [] [])) [(.t p125)], some (p124, true), 1023⟩, ⟨some p127, .bin .eql (.t p126) (.c (.int .i64 (.ofNat 0))), some (p124, true), 2047⟩, ⟨some p128, .pick (.t p124) (.t p127) (.c (.bool false)), none, 4095⟩, ⟨some p129, .mov (.t p128), none, 8191⟩, ⟨some p130, .loadN 5 (.t p7), some (p129, true), 16383⟩, ⟨some p131, .call (.c (.fn 48 [] [])) [(.t p130)], some (p129, true), 32767⟩, ⟨some p132, .bin .eql (.t p131) (.c (.int .i64 (.ofNat 1))), some (p129, true), 65535⟩, ⟨some p133, .pick (.t p129) (.t p132) (.c (.bool false)), none, 131071⟩, ⟨some p134, .mov (.t p133), none, 262143⟩, ⟨some p135, .mov (.t p9), some (p134, true), 524287⟩, ⟨some p136, .bin .eql (.t p135) (.c (.int .i64 (.ofNat 1))), some (p134, true), 1048575⟩, ⟨some p137, .pick (.t p134) (.t p136) (.c (.bool false)), none, 2097151⟩, ⟨some p138, .mov (.t p137), none, 4194303⟩, ⟨some p139, .mov (.t p11), some (p138, true), 8388607⟩, ⟨some p140, .bin .eql (.t p139) (.c (.int .i64 (.ofNat 1))), some (p138, true), 16777215⟩, ⟨some p141, .pick (.t p138) (.t p140) (.c (.bool false)), none, 33554431⟩, ⟨some p142, .mov (.t p141), none, 67108863⟩, ⟨some p143, .mov (.t p13), some (p142, true), 134217727⟩, ⟨some p144, .bin .eql (.t p143) (.c (.int .i64 (.ofNat 1))), some (p142, true), 268435455⟩, ⟨some p145, .pick (.t p142) (.t p144) (.c (.bool false)), none, 536870911⟩, ⟨some p146, .mov (.t p145), none, 1073741823⟩, ⟨some p147, .mov (.t p15), some (p146, true), 2147483647⟩, ⟨some p148, .bin .eql (.t p147) (.c (.int .i64 (.ofNat 1))), some (p146, true), 4294967295⟩, ⟨some p149, .pick (.t p146) (.t p148) (.c (.bool false)), none, 8589934591⟩, ⟨some p150, .mov (.t p149), none, 17179869183⟩, ⟨some p151, .mov (.t p17), some (p150, true), 34359738367⟩, ⟨some p152, .bin .eql (.t p151) (.c (.int .i64 (.ofNat 1))), some (p150, true), 68719476735⟩, ⟨some p153, .pick (.t p150) (.t p152) (.c (.bool false)), none, 137438953471⟩, ⟨some p154, .mov (.t p153), none, 274877906943⟩, ⟨some p155, .call (.c (.fn 28 [] [])) [], some (p154, true), 549755813887⟩, ⟨some p156, .pick (.t p154) (.t p155) (.c (.bool false)), none, 1099511627775⟩, ⟨some p0, .mov (.t p156), none, 2199023255551⟩] false)
 .ret))))))))))))))))) }
theorem ok11 : cFn Try.prog 11 = some ef11 := by kernel_rfl
/-- seesawlaw06.awake -/
def ef28 : EFn := { id := 28, N := 40, res := [(p0, none)], code := (.seq (.region [⟨some p0, .mov (.c (.bool false)), none, 0⟩] false)
 (.seq (.region [⟨some p6, .call (.c (.fn 29 [] [])) [(.c (.int .i64 (.ofNat 5))), (.c (.int .i64 (.ofNat 3)))], none, 0⟩, ⟨some p5, .mov (.t p6), none, 1⟩, ⟨some p7, .ext 0 (.t p5), none, 3⟩, ⟨some p8, .ext 1 (.t p5), none, 3⟩, ⟨some p1, .mov (.t p7), none, 7⟩, ⟨some p2, .mov (.t p8), none, 31⟩] false)
 (.seq (.region [⟨some p10, .call (.c (.fn 31 [] [])) [(.c (.int .i64 (.ofNat 2))), (.c (.int .i64 (.ofNat 3))), (.c (.int .i64 (.ofNat 9)))], none, 0⟩, ⟨some p9, .mov (.t p10), none, 1⟩, ⟨some p11, .ext 0 (.t p9), none, 3⟩, ⟨some p12, .ext 1 (.t p9), none, 3⟩, ⟨some p3, .mov (.t p11), none, 7⟩, ⟨some p4, .mov (.t p12), none, 31⟩] false)
 (.seq (.region [⟨some p13, .buildSl [(.int .i64 (.ofNat 0))] 1 [(0, 1, (.c (.int .i64 (.ofNat 4))))], none, 0⟩, ⟨some p14, .build [(.int .i64 (.ofNat 0)), (.int .i64 (.ofNat 0)), (.int .i64 (.ofNat 0)), .nils, .nils] [(0, 1, (.c (.int .i64 (.ofNat 1)))), (2, 1, (.c (.int .i64 (.ofNat 1)))), (3, 1, (.t p13))], none, 1⟩, ⟨some p15, .call (.c (.fn 46 [] [])) [(.t p14)], none, 3⟩, ⟨some p16, .bin .eql (.t p15) (.c (.int .i64 (.ofNat 0))), none, 7⟩, ⟨some p17, .mov (.t p16), none, 15⟩, ⟨some p18, .buildSl [(.int .i64 (.ofNat 0))] 1 [(0, 1, (.c (.int .i64 (.ofNat 4))))], some (p17, true), 31⟩, ⟨some p19, .build [(.int .i64 (.ofNat 0)), (.int .i64 (.ofNat 0)), (.int .i64 (.ofNat 0)), .nils, .nils] [(0, 1, (.c (.int .i64 (.ofNat 2)))), (2, 1, (.c (.int .i64 (.ofNat 1)))), (3, 1, (.t p18))], some (p17, true), 63⟩, ⟨some p20, .call (.c (.fn 46 [] [])) [(.t p19)], some (p17, true), 127⟩, ⟨some p21, .bin .eql (.t p20) (.c (.int .i64 (.ofNat 4))), some (p17, true), 255⟩, ⟨some p22, .pick (.t p17) (.t p21) (.c (.bool false)), none, 511⟩, ⟨some p23, .mov (.t p22), none, 1023⟩, ⟨some p24, .mov (.t p2), some (p23, true), 2047⟩, ⟨some p25, .bin .eql (.t p24) (.c (.int .i64 (.ofNat 0))), some (p23, true), 4095⟩, ⟨some p26, .pick (.t p23) (.t p25) (.c (.bool false)), none, 8191⟩, ⟨some p27, .mov (.t p26), none, 16383⟩, ⟨some p28, .mov (.t p1), some (p27, true), 32767⟩, ⟨some p29, .bin .eql (.t p28) (.c (.int .i64 (.ofNat 2))), some (p27, true), 65535⟩, ⟨some p30, .pick (.t p27) (.t p29) (.c (.bool false)), none, 131071⟩, ⟨some p31, .mov (.t p30), none, 262143⟩, ⟨some p32, .mov (.t p4), some (p31, true), 524287⟩, ⟨some p33, .bin .eql (.t p32) (.c (.int .i64 (.ofNat 0))), some (p31, true), 1048575⟩, ⟨some p34, .pick (.t p31) (.t p33) (.c (.bool false)), none, 2097151⟩, ⟨some p35, .mov (.t p34), none, 4194303⟩, ⟨some p36, .mov (.t p3), some (p35, true), 8388607⟩, ⟨some p37, .buildSl [(.int .i64 (.ofNat 0)), (.int .i64 (.ofNat 0)), (.int .i64 (.ofNat 0))] 3 [(0, 1, (.c (.int .i64 (.ofNat 2)))), (1, 1, (.c (.int .i64 (.ofNat 5)))), (2, 1, (.c (.int .i64 (.ofNat 8))))], some (p35, true), 8388607⟩, ⟨some p38, .call (.c (.fn 33 [] [])) [(.t p36), (.t p37)], some (p35, true), 33554431⟩, ⟨some p39, .pick (.t p35) (.t p38) (.c (.bool false)), none, 67108863⟩, ⟨some p0, .mov (.t p39), none, 134217727⟩] false)
 .ret)))) }
theorem ok28 : cFn Try.prog 28 = some ef28 := by kernel_rfl
/-- setup.Stripe -/
def ef29 : EFn := { id := 29, N := 15, res := [(p4, none), (p5, none)], code := (.seq (.region [⟨some p4, .mov (.c (.int .i64 (.ofNat 0))), none, 0⟩, ⟨some p5, .mov (.c (.int .i64 (.ofNat 0))), none, 1⟩] false)
 (.seq (.seq (.region [⟨some p6, .mov (.t p1), none, 0⟩, ⟨some p7, .bin .lss (.t p6) (.c (.int .i64 (.ofNat 1))), none, 1⟩, ⟨some p8, .mov (.t p7), none, 3⟩, ⟨some p9, .mov (.t p0), some (p8, false), 7⟩, ⟨some p10, .bin .lss (.t p9) (.c (.int .i64 (.ofNat 0))), some (p8, false), 15⟩, ⟨some p11, .pick (.t p8) (.c (.bool true)) (.t p10), none, 31⟩] false)
 (.cond (.t p11) (.seq (.region [⟨some p4, .mov (.c (.int .i64 (.ofNat 0))), none, 0⟩, ⟨some p5, .mov (.c (.int .i64 (.ofNat 1))), none, 1⟩] false)
 .ret) .skip))
 (.seq (.region [⟨some p12, .mov (.t p0), none, 0⟩, ⟨some p13, .mov (.t p1), none, 0⟩, ⟨some p14, .bin .rem (.t p12) (.t p13), none, 3⟩, ⟨some p4, .mov (.t p14), none, 7⟩, ⟨some p5, .mov (.c (.int .i64 (.ofNat 0))), none, 15⟩] false)
 .ret))) }
theorem ok29 : cFn Try.prog 29 = some ef29 := by kernel_rfl
/-- setup.Variables -/
def ef31 : EFn := { id := 31, N := 42, res := [(p6, none), (p7, none)], code := (.seq (.region [⟨some p6, .mov (.c .nils), none, 0⟩, ⟨some p7, .mov (.c (.int .i64 (.ofNat 0))), none, 1⟩] false)
 (.seq (.seq (.region [⟨some p10, .mov (.t p1), none, 0⟩, ⟨some p11, .bin .lss (.t p10) (.c (.int .i64 (.ofNat 1))), none, 1⟩, ⟨some p12, .mov (.t p11), none, 3⟩, ⟨some p13, .mov (.t p2), some (p12, false), 7⟩, ⟨some p14, .bin .lss (.t p13) (.c (.int .i64 (.ofNat 1))), some (p12, false), 15⟩, ⟨some p15, .pick (.t p12) (.c (.bool true)) (.t p14), none, 31⟩, ⟨some p16, .mov (.t p15), none, 63⟩, ⟨some p17, .mov (.t p0), some (p16, false), 127⟩, ⟨some p18, .bin .lss (.t p17) (.c (.int .i64 (.ofNat 0))), some (p16, false), 255⟩, ⟨some p19, .pick (.t p16) (.c (.bool true)) (.t p18), none, 511⟩, ⟨some p20, .mov (.t p19), none, 1023⟩, ⟨some p21, .mov (.t p0), some (p20, false), 2047⟩, ⟨some p22, .mov (.t p1), some (p20, false), 2047⟩, ⟨some p23, .bin .geq (.t p21) (.t p22), some (p20, false), 8191⟩, ⟨some p24, .pick (.t p20) (.c (.bool true)) (.t p23), none, 16383⟩] false)
 (.cond (.t p24) (.seq (.region [⟨some p6, .mov (.c .nils), none, 0⟩, ⟨some p7, .mov (.c (.int .i64 (.ofNat 1))), none, 1⟩] false)
 .ret) .skip))
 (.seq (.region [⟨some p8, .mov (.c .nils), none, 0⟩] false)
 (.seq (.seq (.region [⟨some p25, .mov (.t p0), none, 0⟩, ⟨some p9, .mov (.t p25), none, 1⟩] false)
 (.block 0 (.loop (.seq (.seq (.region [⟨some p26, .mov (.t p9), none, 0⟩, ⟨some p27, .mov (.t p2), none, 0⟩, ⟨some p28, .bin .lss (.t p26) (.t p27), none, 3⟩] false)
 (.cond (.t p28) .skip (.exit 0)))
 (.seq (.block 1 (.seq (.region [⟨some p32, .mov (.t p8), none, 0⟩, ⟨some p33, .mov (.t p9), none, 0⟩, ⟨some p34, .buildSl [(.int .i64 (.ofNat 0))] 1 [(0, 1, (.t p33))], none, 2⟩, ⟨some p35, .app 1 (.t p32) (.t p34), none, 7⟩, ⟨some p8, .mov (.t p35), none, 15⟩] false)
 (.seq (.region [⟨some p36, .mov (.t p9), none, 0⟩, ⟨some p37, .mov (.t p2), none, 0⟩, ⟨some p38, .mov (.t p1), none, 0⟩, ⟨some p39, .bin .sub (.t p37) (.t p38), none, 6⟩, ⟨some p40, .bin .gtr (.t p36) (.t p39), none, 15⟩] false)
 (.cond (.t p40) (.exit 0) .skip))))
 (.region [⟨some p29, .mov (.t p9), none, 0⟩, ⟨some p30, .mov (.t p1), none, 0⟩, ⟨some p31, .bin .add (.t p29) (.t p30), none, 3⟩, ⟨some p9, .mov (.t p31), none, 7⟩] false))))))
 (.seq (.region [⟨some p41, .mov (.t p8), none, 0⟩, ⟨some p6, .mov (.t p41), none, 1⟩, ⟨some p7, .mov (.c (.int .i64 (.ofNat 0))), none, 3⟩] false)
 .ret))))) }
theorem ok31 : cFn Try.prog 31 = some ef31 := by kernel_rfl
/-- seesawref06.Numbers -/
def ef33 : EFn := { id := 33, N := 26, res := [(p4, none)], code := (.seq (.region [⟨some p4, .mov (.c (.bool false)), none, 0⟩] false)
 (.seq (.seq (.region [⟨some p6, .mov (.t p0), none, 0⟩, ⟨some p7, .len false (.t p6), none, 1⟩, ⟨some p8, .mov (.t p1), none, 0⟩, ⟨some p9, .len false (.t p8), none, 4⟩, ⟨some p10, .bin .neq (.t p7) (.t p9), none, 15⟩] false)
 (.cond (.t p10) (.seq (.region [⟨some p4, .mov (.c (.bool false)), none, 0⟩] false)
 .ret) .skip))
 (.seq (.seq (.region [⟨some p5, .mov (.c (.int .i64 (.ofNat 0))), none, 0⟩] false)
 (.block 0 (.loop (.seq (.seq (.region [⟨some p11, .mov (.t p5), none, 0⟩, ⟨some p12, .mov (.t p0), none, 0⟩, ⟨some p13, .len false (.t p12), none, 2⟩, ⟨some p14, .bin .lss (.t p11) (.t p13), none, 7⟩] false)
 (.cond (.t p14) .skip (.exit 0)))
 (.seq (.block 1 (.seq (.region [⟨some p17, .mov (.t p0), none, 0⟩, ⟨some p18, .mov (.t p5), none, 0⟩, ⟨some p19, .iaddrS 1 (.t p17) (.t p18), none, 3⟩, ⟨some p20, .load1 (.t p19), none, 7⟩, ⟨some p21, .mov (.t p1), none, 0⟩, ⟨some p22, .mov (.t p5), none, 0⟩, ⟨some p23, .iaddrS 1 (.t p21) (.t p22), none, 48⟩, ⟨some p24, .load1 (.t p23), none, 112⟩, ⟨some p25, .bin .neq (.t p20) (.t p24), none, 255⟩] true)
 (.cond (.t p25) (.seq (.region [⟨some p4, .mov (.c (.bool false)), none, 0⟩] false)
 .ret) .skip)))
 (.region [⟨some p15, .mov (.t p5), none, 0⟩, ⟨some p16, .bin .add (.t p15) (.c (.int .i64 (.ofNat 1))), none, 1⟩, ⟨some p5, .mov (.t p16), none, 3⟩] false))))))
 (.seq (.region [⟨some p4, .mov (.c (.bool true)), none, 0⟩] false)
 .ret)))) }
theorem ok33 : cFn Try.prog 33 = some ef33 := by kernel_rfl
/-- code.May -/
def ef37 : EFn := { id := 37, N := 42, res := [(p4, some none)], code := (.seq (.region [⟨some p3, .box (.t p1), none, 0⟩, ⟨some p4, .alloc [(.bool false)], none, 0⟩] false)
 (.seq (.seq (.region [⟨some p8, .load1 (.t p3), none, 0⟩, ⟨some p9, .bin .lss (.t p8) (.c (.int .i64 (.ofNat 0))), none, 1⟩, ⟨some p10, .mov (.t p9), none, 3⟩, ⟨some p11, .load1 (.t p3), some (p10, false), 7⟩, ⟨some p12, .bin .geq (.t p11) (.c (.int .i64 (.ofNat 6))), some (p10, false), 15⟩, ⟨some p13, .pick (.t p10) (.c (.bool true)) (.t p12), none, 31⟩, ⟨some p14, .mov (.t p13), none, 63⟩, ⟨some p15, .mov (.t p0), some (p14, false), 127⟩, ⟨some p16, .call (.c (.fn 43 [] [])) [(.t p15)], some (p14, false), 255⟩, ⟨some p17, .bin .gtr (.t p16) (.c (.int .i64 (.ofNat 6))), some (p14, false), 511⟩, ⟨some p18, .pick (.t p14) (.c (.bool true)) (.t p17), none, 1023⟩, ⟨some p19, .mov (.t p18), none, 2047⟩, ⟨some p20, .mov (.t p0), some (p19, false), 4095⟩, ⟨some p21, .call (.c (.fn 42 [] [])) [(.t p20)], some (p19, false), 8191⟩, ⟨some p22, .bin .gtr (.t p21) (.c (.int .i64 (.ofNat 2000))), some (p19, false), 16383⟩, ⟨some p23, .pick (.t p19) (.c (.bool true)) (.t p22), none, 32767⟩] false)
 (.cond (.t p23) (.seq (.region [⟨none, .store 1 (.t p4) (.c (.bool false)), none, 0⟩] false)
 .ret) .skip))
 (.seq (.region [⟨some p25, .mov (.t p0), none, 0⟩, ⟨some p26, .call (.c (.fn 70 [] [])) [(.t p25)], none, 1⟩, ⟨some p24, .mov (.t p26), none, 3⟩, ⟨some p27, .ext 0 (.t p24), none, 7⟩, ⟨some p28, .ext 1 (.t p24), none, 7⟩, ⟨some p5, .mov (.t p27), none, 15⟩, ⟨some p6, .mov (.t p28), none, 63⟩] false)
 (.seq (.seq (.region [⟨some p29, .mov (.t p0), none, 0⟩, ⟨some p30, .call (.c (.fn 72 [] [])) [(.t p29)], none, 1⟩] false)
 (.block 0 (.rangeF (.t p30) [p31] (.region [⟨some p7, .alloc [(.int .u8 (.ofNat 0)), (.int .i64 (.ofNat 0)), (.int .u8 (.ofNat 0)), (.int .i64 (.ofNat 0)), .nils, (.int .u8 (.ofNat 0)), (.int .i64 (.ofNat 0)), .nils, .nils, .nils], none, 0⟩, ⟨none, .store 10 (.t p7) (.t p31), none, 1⟩] false) (.block 1 (.seq (.region [⟨some p32, .loadN 10 (.t p7), none, 0⟩, ⟨some p33, .load1 (.t p3), none, 0⟩, ⟨some p34, .call (.c (.fn 73 [] [])) [(.t p32), (.t p33)], none, 3⟩, ⟨some p35, .un .not (.t p34), none, 7⟩] false)
 (.cond (.t p35) (.seq (.region [⟨none, .store 1 (.t p4) (.c (.bool false)), none, 0⟩] false)
 .ret) .skip))))))
 (.seq (.region [⟨some p36, .mov (.t p5), none, 0⟩, ⟨some p37, .bin .leq (.t p36) (.c (.int .i64 (.ofNat 40))), none, 1⟩, ⟨some p38, .mov (.t p37), none, 3⟩, ⟨some p39, .mov (.t p6), some (p38, true), 7⟩, ⟨some p40, .bin .leq (.t p39) (.c (.int .i64 (.ofNat 300))), some (p38, true), 15⟩, ⟨some p41, .pick (.t p38) (.t p40) (.c (.bool false)), none, 31⟩, ⟨none, .store 1 (.t p4) (.t p41), none, 63⟩] false)
 .ret))))) }
theorem ok37 : cFn Try.prog 37 = some ef37 := by kernel_rfl
/-- code.Cost -/
def ef42 : EFn := { id := 42, N := 46, res := [(p2, none)], code := (.seq (.region [⟨some p2, .mov (.c (.int .i64 (.ofNat 0))), none, 0⟩] false)
 (.seq (.region [⟨some p3, .mov (.c (.int .i64 (.ofNat 0))), none, 0⟩] false)
 (.seq (.seq (.region [⟨some p7, .mov (.t p0), none, 0⟩, ⟨some p8, .len false (.t p7), none, 1⟩, ⟨some p9, .mov (.c (.int .i64 (.ofNat 0))), none, 0⟩] false)
 (.block 0 (.loop (.seq (.region [⟨some p10, .bin .lss (.t p9) (.t p8), none, 0⟩] false)
 (.seq (.cond (.t p10) .skip (.exit 0))
 (.seq (.block 1 (.seq (.region [⟨some p11, .iaddrS 10 (.t p7) (.t p9), none, 0⟩, ⟨some p12, .loadN 10 (.t p11), none, 1⟩, ⟨some p5, .alloc [(.int .u8 (.ofNat 0)), (.int .i64 (.ofNat 0)), (.int .u8 (.ofNat 0)), (.int .i64 (.ofNat 0)), .nils, (.int .u8 (.ofNat 0)), (.int .i64 (.ofNat 0)), .nils, .nils, .nils], none, 0⟩, ⟨none, .store 10 (.t p5) (.t p12), none, 7⟩] false)
 (.seq (.region [⟨some p6, .mov (.c (.int .i64 (.ofNat 0))), none, 0⟩] false)
 (.seq (.seq (.region [⟨some p13, .faddr 0 (.t p5), none, 0⟩, ⟨some p14, .load1 (.t p13), none, 1⟩] false)
 (.block 2 (.seq (.region [⟨some p16, .bin .eql (.t p14) (.c (.int .u8 (.ofNat 4))), none, 0⟩, ⟨some p15, .mov (.t p16), none, 1⟩] false)
 (.cond (.t p15) (.region [⟨some p17, .faddr 8 (.t p5), none, 0⟩, ⟨some p18, .load1 (.t p17), none, 1⟩, ⟨some p19, .call (.c (.fn 42 [] [])) [(.t p18)], none, 3⟩, ⟨some p20, .faddr 9 (.t p5), none, 0⟩, ⟨some p21, .load1 (.t p20), none, 8⟩, ⟨some p22, .call (.c (.fn 42 [] [])) [(.t p21)], none, 31⟩, ⟨some p23, .max (.t p19) (.t p22), none, 63⟩, ⟨some p6, .mov (.t p23), none, 127⟩] true) (.seq (.region [⟨some p25, .bin .eql (.t p14) (.c (.int .u8 (.ofNat 5))), none, 0⟩, ⟨some p24, .mov (.t p25), none, 1⟩] false)
 (.cond (.t p24) (.region [⟨some p26, .faddr 8 (.t p5), none, 0⟩, ⟨some p27, .load1 (.t p26), none, 1⟩, ⟨some p28, .call (.c (.fn 42 [] [])) [(.t p27)], none, 3⟩, ⟨some p29, .bin .mul (.c (.int .i64 (.ofNat 8))) (.t p28), none, 7⟩, ⟨some p6, .mov (.t p29), none, 15⟩] false) (.seq (.region [⟨some p31, .bin .eql (.t p14) (.c (.int .u8 (.ofNat 7))), none, 0⟩, ⟨some p30, .mov (.t p31), none, 1⟩] false)
 (.cond (.t p30) (.region [⟨some p32, .faddr 8 (.t p5), none, 0⟩, ⟨some p33, .load1 (.t p32), none, 1⟩, ⟨some p34, .call (.c (.fn 42 [] [])) [(.t p33)], none, 3⟩, ⟨some p35, .faddr 9 (.t p5), none, 0⟩, ⟨some p36, .load1 (.t p35), none, 8⟩, ⟨some p37, .call (.c (.fn 42 [] [])) [(.t p36)], none, 31⟩, ⟨some p38, .bin .add (.t p34) (.t p37), none, 63⟩, ⟨some p6, .mov (.t p38), none, 127⟩] true) .skip))))))))
 (.region [⟨some p39, .mov (.t p3), none, 0⟩, ⟨some p40, .bin .add (.t p39) (.c (.int .i64 (.ofNat 1))), none, 1⟩, ⟨some p41, .mov (.t p6), none, 0⟩, ⟨some p42, .bin .add (.t p40) (.t p41), none, 7⟩, ⟨some p43, .min (.t p42) (.c (.int .i64 (.ofNat 2001))), none, 15⟩, ⟨some p3, .mov (.t p43), none, 31⟩] false)))))
 (.region [⟨some p44, .bin .add (.t p9) (.c (.int .i64 (.ofNat 1))), none, 0⟩, ⟨some p9, .mov (.t p44), none, 1⟩] false)))))))
 (.seq (.region [⟨some p45, .mov (.t p3), none, 0⟩, ⟨some p2, .mov (.t p45), none, 1⟩] false)
 .ret)))) }
theorem ok42 : cFn Try.prog 42 = some ef42 := by kernel_rfl
/-- code.Depth -/
def ef43 : EFn := { id := 43, N := 33, res := [(p2, none)], code := (.seq (.region [⟨some p2, .mov (.c (.int .i64 (.ofNat 0))), none, 0⟩] false)
 (.seq (.region [⟨some p3, .mov (.c (.int .i64 (.ofNat 0))), none, 0⟩] false)
 (.seq (.seq (.region [⟨some p6, .mov (.t p0), none, 0⟩, ⟨some p7, .len false (.t p6), none, 1⟩, ⟨some p8, .mov (.c (.int .i64 (.ofNat 0))), none, 0⟩] false)
 (.block 0 (.loop (.seq (.region [⟨some p9, .bin .lss (.t p8) (.t p7), none, 0⟩] false)
 (.seq (.cond (.t p9) .skip (.exit 0))
 (.seq (.block 1 (.seq (.region [⟨some p10, .iaddrS 10 (.t p6) (.t p8), none, 0⟩, ⟨some p11, .loadN 10 (.t p10), none, 1⟩, ⟨some p5, .alloc [(.int .u8 (.ofNat 0)), (.int .i64 (.ofNat 0)), (.int .u8 (.ofNat 0)), (.int .i64 (.ofNat 0)), .nils, (.int .u8 (.ofNat 0)), (.int .i64 (.ofNat 0)), .nils, .nils, .nils], none, 0⟩, ⟨none, .store 10 (.t p5) (.t p11), none, 7⟩] false)
 (.seq (.seq (.region [⟨some p12, .faddr 8 (.t p5), none, 0⟩, ⟨some p13, .load1 (.t p12), none, 1⟩, ⟨some p14, .len false (.t p13), none, 3⟩, ⟨some p15, .bin .gtr (.t p14) (.c (.int .i64 (.ofNat 0))), none, 7⟩] false)
 (.cond (.t p15) (.region [⟨some p16, .mov (.t p3), none, 0⟩, ⟨some p17, .faddr 8 (.t p5), none, 0⟩, ⟨some p18, .load1 (.t p17), none, 2⟩, ⟨some p19, .call (.c (.fn 43 [] [])) [(.t p18)], none, 6⟩, ⟨some p20, .max (.t p16) (.t p19), none, 15⟩, ⟨some p3, .mov (.t p20), none, 31⟩] false) .skip))
 (.seq (.region [⟨some p21, .faddr 9 (.t p5), none, 0⟩, ⟨some p22, .load1 (.t p21), none, 1⟩, ⟨some p23, .len false (.t p22), none, 3⟩, ⟨some p24, .bin .gtr (.t p23) (.c (.int .i64 (.ofNat 0))), none, 7⟩] false)
 (.cond (.t p24) (.region [⟨some p25, .mov (.t p3), none, 0⟩, ⟨some p26, .faddr 9 (.t p5), none, 0⟩, ⟨some p27, .load1 (.t p26), none, 2⟩, ⟨some p28, .call (.c (.fn 43 [] [])) [(.t p27)], none, 6⟩, ⟨some p29, .max (.t p25) (.t p28), none, 15⟩, ⟨some p3, .mov (.t p29), none, 31⟩] false) .skip)))))
 (.region [⟨some p30, .bin .add (.t p8) (.c (.int .i64 (.ofNat 1))), none, 0⟩, ⟨some p8, .mov (.t p30), none, 1⟩] false)))))))
 (.seq (.region [⟨some p31, .mov (.t p3), none, 0⟩, ⟨some p32, .bin .add (.t p31) (.c (.int .i64 (.ofNat 1))), none, 1⟩, ⟨some p2, .mov (.t p32), none, 3⟩] false)
 .ret)))) }
theorem ok43 : cFn Try.prog 43 = some ef43 := by kernel_rfl
/-- setup.Check -/
def ef46 : EFn := { id := 46, N := 67, res := [(p2, none)], code := (.seq (.region [⟨some p1, .box (.t p0), none, 0⟩, ⟨some p2, .mov (.c (.int .i64 (.ofNat 0))), none, 0⟩] false)
 (.seq (.region [⟨some p9, .faddr 3 (.t p1), none, 0⟩, ⟨some p10, .load1 (.t p9), none, 1⟩, ⟨some p11, .len false (.t p10), none, 3⟩, ⟨some p3, .mov (.t p11), none, 7⟩] false)
 (.seq (.region [⟨some p4, .mov (.c (.fn 77 [] [])), none, 0⟩] false)
 (.seq (.seq (.region [⟨some p12, .mov (.t p4), none, 0⟩, ⟨some p13, .mov (.t p3), none, 0⟩, ⟨some p14, .call (.t p12) [(.t p13), (.c (.int .i64 (.ofNat 1))), (.c (.int .i64 (.ofNat 32)))], none, 3⟩, ⟨some p15, .un .not (.t p14), none, 7⟩, ⟨some p16, .mov (.t p15), none, 15⟩, ⟨some p17, .mov (.t p4), some (p16, false), 31⟩, ⟨some p18, .faddr 0 (.t p1), some (p16, false), 31⟩, ⟨some p19, .load1 (.t p18), some (p16, false), 95⟩, ⟨some p20, .mov (.t p3), some (p16, false), 31⟩, ⟨some p21, .call (.t p17) [(.t p19), (.c (.int .i64 (.ofNat 1))), (.t p20)], some (p16, false), 511⟩, ⟨some p22, .un .not (.t p21), some (p16, false), 1023⟩, ⟨some p23, .pick (.t p16) (.c (.bool true)) (.t p22), none, 2047⟩, ⟨some p24, .mov (.t p23), none, 4095⟩, ⟨some p25, .mov (.t p4), some (p24, false), 8191⟩, ⟨some p26, .faddr 1 (.t p1), some (p24, false), 8191⟩, ⟨some p27, .load1 (.t p26), some (p24, false), 24575⟩, ⟨some p28, .call (.t p25) [(.t p27), (.c (.int .i64 (.ofNat 0))), (.c (.int .i64 (.ofNat 1099511627776)))], some (p24, false), 65535⟩, ⟨some p29, .un .not (.t p28), some (p24, false), 131071⟩, ⟨some p30, .pick (.t p24) (.c (.bool true)) (.t p29), none, 262143⟩, ⟨some p31, .mov (.t p30), none, 524287⟩, ⟨some p32, .mov (.t p4), some (p31, false), 1048575⟩, ⟨some p33, .faddr 2 (.t p1), some (p31, false), 1048575⟩, ⟨some p34, .load1 (.t p33), some (p31, false), 3145727⟩, ⟨some p35, .call (.t p32) [(.t p34), (.c (.int .i64 (.ofNat 1))), (.c (.int .i64 (.ofNat 1000)))], some (p31, false), 8388607⟩, ⟨some p36, .un .not (.t p35), some (p31, false), 16777215⟩, ⟨some p37, .pick (.t p31) (.c (.bool true)) (.t p36), none, 33554431⟩, ⟨some p38, .mov (.t p37), none, 67108863⟩, ⟨some p39, .faddr 4 (.t p1), some (p38, false), 134217727⟩, ⟨some p40, .load1 (.t p39), some (p38, false), 268435455⟩, ⟨some p41, .len false (.t p40), some (p38, false), 536870911⟩, ⟨some p42, .bin .gtr (.t p41) (.c (.int .i64 (.ofNat 6))), some (p38, false), 1073741823⟩, ⟨some p43, .pick (.t p38) (.c (.bool true)) (.t p42), none, 2147483647⟩] false)
 (.cond (.t p43) (.seq (.region [⟨some p2, .mov (.c (.int .i64 (.ofNat 4))), none, 0⟩] false)
 .ret) .skip))
 (.seq (.seq (.region [⟨some p44, .faddr 4 (.t p1), none, 0⟩, ⟨some p45, .load1 (.t p44), none, 1⟩, ⟨some p46, .len false (.t p45), none, 3⟩, ⟨some p47, .mov (.c (.int .i64 (.ofNat 0))), none, 0⟩] false)
 (.block 0 (.loop (.seq (.region [⟨some p48, .bin .lss (.t p47) (.t p46), none, 0⟩] false)
 (.seq (.cond (.t p48) .skip (.exit 0))
 (.seq (.block 1 (.seq (.region [⟨some p49, .iaddrS 1 (.t p45) (.t p47), none, 0⟩, ⟨some p50, .load1 (.t p49), none, 1⟩, ⟨some p6, .mov (.t p50), none, 3⟩] false)
 (.seq (.seq (.region [⟨some p51, .mov (.t p6), none, 0⟩, ⟨some p52, .len false (.t p51), none, 1⟩, ⟨some p53, .bin .gtr (.t p52) (.c (.int .i64 (.ofNat 6))), none, 3⟩] false)
 (.cond (.t p53) (.seq (.region [⟨some p2, .mov (.c (.int .i64 (.ofNat 4))), none, 0⟩] false)
 .ret) .skip))
 (.seq (.region [⟨some p54, .mov (.t p6), none, 0⟩, ⟨some p55, .len false (.t p54), none, 1⟩, ⟨some p56, .mov (.c (.int .i64 (.ofNat 0))), none, 0⟩] false)
 (.block 2 (.loop (.seq (.region [⟨some p57, .bin .lss (.t p56) (.t p55), none, 0⟩] false)
 (.seq (.cond (.t p57) .skip (.exit 2))
 (.seq (.block 3 (.seq (.region [⟨some p58, .mov (.t p56), none, 0⟩, ⟨some p59, .iaddrS 1 (.t p54) (.t p56), none, 0⟩, ⟨some p60, .load1 (.t p59), none, 2⟩, ⟨some p7, .mov (.t p58), none, 7⟩, ⟨some p8, .mov (.t p60), none, 15⟩] false)
 (.seq (.region [⟨some p61, .mov (.t p8), none, 0⟩, ⟨some p62, .mov (.t p7), none, 0⟩, ⟨some p63, .call (.c (.fn 37 [] [])) [(.t p61), (.t p62)], none, 3⟩, ⟨some p64, .un .not (.t p63), none, 7⟩] false)
 (.cond (.t p64) (.seq (.region [⟨some p2, .mov (.c (.int .i64 (.ofNat 4))), none, 0⟩] false)
 .ret) .skip))))
 (.region [⟨some p65, .bin .add (.t p56) (.c (.int .i64 (.ofNat 1))), none, 0⟩, ⟨some p56, .mov (.t p65), none, 1⟩] false))))))))))
 (.region [⟨some p66, .bin .add (.t p47) (.c (.int .i64 (.ofNat 1))), none, 0⟩, ⟨some p47, .mov (.t p66), none, 1⟩] false)))))))
 (.seq (.region [⟨some p2, .mov (.c (.int .i64 (.ofNat 0))), none, 0⟩] false)
 .ret)))))) }
theorem ok46 : cFn Try.prog 46 = some ef46 := by kernel_rfl
/-- seesawref06.Copy -/
def ef47 : EFn := { id := 47, N := 50, res := [(p2, some (some 5))], code := (.seq (.region [⟨some p1, .box (.t p0), none, 0⟩, ⟨some p2, .alloc [(.int .i64 (.ofNat 0)), (.int .i64 (.ofNat 0)), (.int .i64 (.ofNat 0)), .nils, .nils], none, 0⟩] false)
 (.seq (.region [⟨some p7, .loadN 5 (.t p1), none, 0⟩, ⟨some p3, .alloc [(.int .i64 (.ofNat 0)), (.int .i64 (.ofNat 0)), (.int .i64 (.ofNat 0)), .nils, .nils], none, 0⟩, ⟨none, .store 5 (.t p3) (.t p7), none, 3⟩] false)
 (.seq (.region [⟨some p8, .buildSl [] 0 [], none, 0⟩, ⟨some p9, .faddr 3 (.t p1), none, 0⟩, ⟨some p10, .load1 (.t p9), none, 2⟩, ⟨some p11, .app 1 (.t p8) (.t p10), none, 7⟩, ⟨some p12, .faddr 3 (.t p3), none, 15⟩, ⟨none, .store 1 (.t p12) (.t p11), none, 31⟩] false)
 (.seq (.region [⟨some p13, .faddr 4 (.t p3), none, 0⟩, ⟨none, .store 1 (.t p13) (.c .nils), none, 1⟩] false)
 (.seq (.seq (.region [⟨some p4, .mov (.c (.int .i64 (.ofNat 0))), none, 0⟩] false)
 (.block 0 (.loop (.seq (.seq (.region [⟨some p14, .mov (.t p4), none, 0⟩, ⟨some p15, .faddr 4 (.t p1), none, 0⟩, ⟨some p16, .load1 (.t p15), none, 2⟩, ⟨some p17, .len false (.t p16), none, 6⟩, ⟨some p18, .bin .lss (.t p14) (.t p17), none, 15⟩] false)
 (.cond (.t p18) .skip (.exit 0)))
 (.seq (.block 1 (.seq (.region [⟨some p5, .mov (.c .nils), none, 0⟩] false)
 (.seq (.seq (.region [⟨some p6, .mov (.c (.int .i64 (.ofNat 0))), none, 0⟩] false)
 (.block 2 (.loop (.seq (.seq (.region [⟨some p21, .mov (.t p6), none, 0⟩, ⟨some p22, .faddr 4 (.t p1), none, 0⟩, ⟨some p23, .load1 (.t p22), none, 2⟩, ⟨some p24, .mov (.t p4), none, 0⟩, ⟨some p25, .iaddrS 1 (.t p23) (.t p24), none, 14⟩, ⟨some p26, .load1 (.t p25), none, 30⟩, ⟨some p27, .len false (.t p26), none, 62⟩, ⟨some p28, .bin .lss (.t p21) (.t p27), none, 127⟩] false)
 (.cond (.t p28) .skip (.exit 2)))
 (.seq (.block 3 (.region [⟨some p31, .mov (.t p5), none, 0⟩, ⟨some p32, .faddr 4 (.t p1), none, 0⟩, ⟨some p33, .load1 (.t p32), none, 2⟩, ⟨some p34, .mov (.t p4), none, 0⟩, ⟨some p35, .iaddrS 1 (.t p33) (.t p34), none, 14⟩, ⟨some p36, .load1 (.t p35), none, 30⟩, ⟨some p37, .mov (.t p6), none, 0⟩, ⟨some p38, .iaddrS 1 (.t p36) (.t p37), none, 126⟩, ⟨some p39, .load1 (.t p38), none, 254⟩, ⟨some p40, .call (.c (.fn 78 [] [])) [(.t p39)], none, 510⟩, ⟨some p41, .buildSl [.nils] 1 [(0, 1, (.t p40))], none, 1022⟩, ⟨some p42, .app 1 (.t p31) (.t p41), none, 2047⟩, ⟨some p5, .mov (.t p42), none, 4095⟩] false))
 (.region [⟨some p29, .mov (.t p6), none, 0⟩, ⟨some p30, .bin .add (.t p29) (.c (.int .i64 (.ofNat 1))), none, 1⟩, ⟨some p6, .mov (.t p30), none, 3⟩] false))))))
 (.region [⟨some p43, .faddr 4 (.t p3), none, 0⟩, ⟨some p44, .load1 (.t p43), none, 1⟩, ⟨some p45, .mov (.t p5), none, 0⟩, ⟨some p46, .buildSl [.nils] 1 [(0, 1, (.t p45))], none, 4⟩, ⟨some p47, .app 1 (.t p44) (.t p46), none, 15⟩, ⟨some p48, .faddr 4 (.t p3), none, 31⟩, ⟨none, .store 1 (.t p48) (.t p47), none, 63⟩] false))))
 (.region [⟨some p19, .mov (.t p4), none, 0⟩, ⟨some p20, .bin .add (.t p19) (.c (.int .i64 (.ofNat 1))), none, 1⟩, ⟨some p4, .mov (.t p20), none, 3⟩] false))))))
 (.seq (.region [⟨some p49, .loadN 5 (.t p3), none, 0⟩, ⟨none, .store 5 (.t p2) (.t p49), none, 1⟩] false)
 .ret)))))) }
theorem ok47 : cFn Try.prog 47 = some ef47 := by kernel_rfl
/-- setup.Cost -/
def ef48 : EFn := { id := 48, N := 6, res := [(p2, none)], code := (.seq (.region [⟨some p1, .box (.t p0), none, 0⟩, ⟨some p2, .mov (.c (.int .i64 (.ofNat 0))), none, 0⟩] false)
 (.seq (.region [⟨some p3, .faddr 4 (.t p1), none, 0⟩, ⟨some p4, .load1 (.t p3), none, 1⟩, ⟨some p5, .call (.c (.fn 79 [] [])) [(.t p4), (.c (.fn 80 [] []))], none, 3⟩, ⟨some p2, .mov (.t p5), none, 7⟩] false)
 .ret)) }
theorem ok48 : cFn Try.prog 48 = some ef48 := by kernel_rfl
/-- code.Count -/
def ef70 : EFn := { id := 70, N := 21, res := [(p2, some none), (p3, some none)], code := (.seq (.region [⟨some p2, .alloc [(.int .i64 (.ofNat 0))], none, 0⟩, ⟨some p3, .alloc [(.int .i64 (.ofNat 0))], none, 0⟩] false)
 (.seq (.seq (.region [⟨some p5, .mov (.t p0), none, 0⟩, ⟨some p6, .call (.c (.fn 72 [] [])) [(.t p5)], none, 1⟩] false)
 (.block 0 (.rangeF (.t p6) [p7] (.region [⟨some p4, .alloc [(.int .u8 (.ofNat 0)), (.int .i64 (.ofNat 0)), (.int .u8 (.ofNat 0)), (.int .i64 (.ofNat 0)), .nils, (.int .u8 (.ofNat 0)), (.int .i64 (.ofNat 0)), .nils, .nils, .nils], none, 0⟩, ⟨none, .store 10 (.t p4) (.t p7), none, 1⟩] false) (.block 1 (.seq (.region [⟨some p8, .load1 (.t p2), none, 0⟩, ⟨some p9, .bin .add (.t p8) (.c (.int .i64 (.ofNat 1))), none, 1⟩, ⟨none, .store 1 (.t p2) (.t p9), none, 3⟩] false)
 (.region [⟨some p10, .load1 (.t p3), none, 0⟩, ⟨some p11, .faddr 2 (.t p4), none, 0⟩, ⟨some p12, .loadN 3 (.t p11), none, 2⟩, ⟨some p13, .call (.c (.fn 107 [] [])) [(.t p12)], none, 6⟩, ⟨some p14, .faddr 5 (.t p4), none, 0⟩, ⟨some p15, .loadN 3 (.t p14), none, 16⟩, ⟨some p16, .call (.c (.fn 107 [] [])) [(.t p15)], none, 62⟩, ⟨some p17, .bin .add (.t p13) (.t p16), none, 126⟩, ⟨some p18, .bin .add (.t p10) (.t p17), none, 255⟩, ⟨none, .store 1 (.t p3) (.t p18), none, 511⟩] true))))))
 (.seq (.region [⟨some p19, .load1 (.t p2), none, 0⟩, ⟨some p20, .load1 (.t p3), none, 0⟩, ⟨none, .store 1 (.t p2) (.t p19), none, 1⟩, ⟨none, .store 1 (.t p3) (.t p20), none, 7⟩] true)
 .ret))) }
theorem ok70 : cFn Try.prog 70 = some ef70 := by kernel_rfl
/-- code.all -/
def ef72 : EFn := { id := 72, N := 4, res := [(p2, none)], code := (.seq (.region [⟨some p1, .box (.t p0), none, 0⟩, ⟨some p2, .mov (.c .nilf), none, 0⟩] false)
 (.seq (.region [⟨some p3, .mkfn 108 [] [(.t p1)], none, 0⟩, ⟨some p2, .mov (.t p3), none, 1⟩] false)
 .ret)) }
theorem ok72 : cFn Try.prog 72 = some ef72 := by kernel_rfl
/-- code.shaped -/
def ef73 : EFn := { id := 73, N := 68, res := [(p4, none)], code := (.seq (.region [⟨some p2, .box (.t p0), none, 0⟩, ⟨some p3, .box (.t p1), none, 0⟩, ⟨some p4, .mov (.c (.bool false)), none, 0⟩] false)
 (.seq (.region [⟨some p7, .faddr 0 (.t p2), none, 0⟩, ⟨some p8, .load1 (.t p7), none, 1⟩, ⟨some p9, .call (.c (.fn 110 [] [])) [(.t p8)], none, 3⟩, ⟨some p5, .alloc [(.bool false), (.bool false), (.bool false), (.bool false), (.bool false), (.bool false)], none, 0⟩, ⟨none, .store 6 (.t p5) (.t p9), none, 15⟩] false)
 (.seq (.region [⟨some p10, .mkfn 111 [] [(.t p3)], none, 0⟩, ⟨some p6, .mov (.t p10), none, 1⟩] false)
 (.seq (.block 0 (.seq (.region [⟨some p12, .loadN 6 (.t p5), none, 0⟩, ⟨some p13, .build [(.bool false), (.bool false), (.bool false), (.bool false), (.bool false), (.bool false)] [], none, 0⟩, ⟨some p14, .eq false (.bools [0, 1, 2, 3, 4, 5]) (.t p12) (.t p13), none, 3⟩, ⟨some p11, .mov (.t p14), none, 7⟩] false)
 (.cond (.t p11) (.seq (.region [⟨some p4, .mov (.c (.bool false)), none, 0⟩] false)
 .ret) (.seq (.region [⟨some p16, .faddr 1 (.t p2), none, 0⟩, ⟨some p17, .load1 (.t p16), none, 1⟩, ⟨some p18, .bin .lss (.t p17) (.c (.int .i64 (.ofNat 0))), none, 3⟩, ⟨some p19, .mov (.t p18), none, 7⟩, ⟨some p20, .faddr 1 (.t p2), some (p19, false), 15⟩, ⟨some p21, .load1 (.t p20), some (p19, false), 31⟩, ⟨some p22, .bin .geq (.t p21) (.c (.int .i64 (.ofNat 8))), some (p19, false), 63⟩, ⟨some p23, .pick (.t p19) (.c (.bool true)) (.t p22), none, 127⟩, ⟨some p24, .mov (.t p23), none, 255⟩, ⟨some p25, .faddr 1 (.t p5), some (p24, false), 511⟩, ⟨some p26, .load1 (.t p25), some (p24, false), 1023⟩, ⟨some p27, .un .not (.t p26), some (p24, false), 2047⟩, ⟨some p28, .mov (.t p27), some (p24, false), 4095⟩, ⟨some p29, .faddr 1 (.t p2), some (p28, true), 8191⟩, ⟨some p30, .load1 (.t p29), some (p28, true), 16383⟩, ⟨some p31, .bin .neq (.t p30) (.c (.int .i64 (.ofNat 0))), some (p28, true), 32767⟩, ⟨some p32, .pick (.t p28) (.t p31) (.c (.bool false)), some (p24, false), 65535⟩, ⟨some p33, .pick (.t p24) (.c (.bool true)) (.t p32), none, 131071⟩, ⟨some p15, .mov (.t p33), none, 262143⟩] false)
 (.cond (.t p15) (.seq (.region [⟨some p4, .mov (.c (.bool false)), none, 0⟩] false)
 .ret) .skip)))))
 (.seq (.region [⟨some p34, .mov (.t p6), none, 0⟩, ⟨some p35, .faddr 2 (.t p5), none, 0⟩, ⟨some p36, .load1 (.t p35), none, 2⟩, ⟨some p37, .faddr 2 (.t p2), none, 0⟩, ⟨some p38, .loadN 3 (.t p37), none, 8⟩, ⟨some p39, .call (.t p34) [(.t p36), (.t p38)], none, 31⟩, ⟨some p40, .mov (.t p39), none, 63⟩, ⟨some p41, .mov (.t p6), some (p40, true), 127⟩, ⟨some p42, .faddr 3 (.t p5), some (p40, true), 127⟩, ⟨some p43, .load1 (.t p42), some (p40, true), 383⟩, ⟨some p44, .faddr 5 (.t p2), some (p40, true), 127⟩, ⟨some p45, .loadN 3 (.t p44), some (p40, true), 1151⟩, ⟨some p46, .call (.t p41) [(.t p43), (.t p45)], some (p40, true), 4095⟩, ⟨some p47, .pick (.t p40) (.t p46) (.c (.bool false)), none, 8191⟩, ⟨some p48, .mov (.t p47), none, 16383⟩, ⟨some p49, .faddr 4 (.t p5), some (p48, true), 32767⟩, ⟨some p50, .load1 (.t p49), some (p48, true), 65535⟩, ⟨some p51, .mov (.t p50), some (p48, true), 131071⟩, ⟨some p52, .faddr 8 (.t p2), some (p51, false), 262143⟩, ⟨some p53, .load1 (.t p52), some (p51, false), 524287⟩, ⟨some p54, .len false (.t p53), some (p51, false), 1048575⟩, ⟨some p55, .bin .eql (.t p54) (.c (.int .i64 (.ofNat 0))), some (p51, false), 2097151⟩, ⟨some p56, .pick (.t p51) (.c (.bool true)) (.t p55), some (p48, true), 4194303⟩, ⟨some p57, .pick (.t p48) (.t p56) (.c (.bool false)), none, 8388607⟩, ⟨some p58, .mov (.t p57), none, 16777215⟩, ⟨some p59, .faddr 5 (.t p5), some (p58, true), 33554431⟩, ⟨some p60, .load1 (.t p59), some (p58, true), 67108863⟩, ⟨some p61, .mov (.t p60), some (p58, true), 134217727⟩, ⟨some p62, .faddr 9 (.t p2), some (p61, false), 268435455⟩, ⟨some p63, .load1 (.t p62), some (p61, false), 536870911⟩, ⟨some p64, .len false (.t p63), some (p61, false), 1073741823⟩, ⟨some p65, .bin .eql (.t p64) (.c (.int .i64 (.ofNat 0))), some (p61, false), 2147483647⟩, ⟨some p66, .pick (.t p61) (.c (.bool true)) (.t p65), some (p58, true), 4294967295⟩, ⟨some p67, .pick (.t p58) (.t p66) (.c (.bool false)), none, 8589934591⟩, ⟨some p4, .mov (.t p67), none, 17179869183⟩] false)
 .ret))))) }
theorem ok73 : cFn Try.prog 73 = some ef73 := by kernel_rfl
/-- setup.Check$1 -/
def ef77 : EFn := { id := 77, N := 15, res := [(p6, none)], code := (.seq (.region [⟨some p6, .mov (.c (.bool false)), none, 0⟩] false)
 (.seq (.region [⟨some p7, .mov (.t p0), none, 0⟩, ⟨some p8, .mov (.t p1), none, 0⟩, ⟨some p9, .bin .geq (.t p7) (.t p8), none, 3⟩, ⟨some p10, .mov (.t p9), none, 7⟩, ⟨some p11, .mov (.t p0), some (p10, true), 15⟩, ⟨some p12, .mov (.t p2), some (p10, true), 15⟩, ⟨some p13, .bin .leq (.t p11) (.t p12), some (p10, true), 63⟩, ⟨some p14, .pick (.t p10) (.t p13) (.c (.bool false)), none, 127⟩, ⟨some p6, .mov (.t p14), none, 255⟩] false)
 .ret)) }
theorem ok77 : cFn Try.prog 77 = some ef77 := by kernel_rfl
/-- seesawref05.Copy -/
def ef78 : EFn := { id := 78, N := 37, res := [(p2, none)], code := (.seq (.region [⟨some p2, .mov (.c .nils), none, 0⟩] false)
 (.seq (.region [⟨some p3, .mov (.c .nils), none, 0⟩] false)
 (.seq (.seq (.region [⟨some p4, .mov (.c (.int .i64 (.ofNat 0))), none, 0⟩] false)
 (.block 0 (.loop (.seq (.seq (.region [⟨some p6, .mov (.t p4), none, 0⟩, ⟨some p7, .mov (.t p0), none, 0⟩, ⟨some p8, .len false (.t p7), none, 2⟩, ⟨some p9, .bin .lss (.t p6) (.t p8), none, 7⟩] false)
 (.cond (.t p9) .skip (.exit 0)))
 (.seq (.block 1 (.seq (.region [⟨some p12, .mov (.t p0), none, 0⟩, ⟨some p13, .mov (.t p4), none, 0⟩, ⟨some p14, .iaddrS 10 (.t p12) (.t p13), none, 3⟩, ⟨some p15, .loadN 10 (.t p14), none, 7⟩, ⟨some p5, .alloc [(.int .u8 (.ofNat 0)), (.int .i64 (.ofNat 0)), (.int .u8 (.ofNat 0)), (.int .i64 (.ofNat 0)), .nils, (.int .u8 (.ofNat 0)), (.int .i64 (.ofNat 0)), .nils, .nils, .nils], none, 0⟩, ⟨none, .store 10 (.t p5) (.t p15), none, 31⟩] false)
 (.region [⟨some p16, .mov (.t p3), none, 0⟩, ⟨some p17, .faddr 0 (.t p5), none, 0⟩, ⟨some p18, .load1 (.t p17), none, 2⟩, ⟨some p19, .faddr 1 (.t p5), none, 0⟩, ⟨some p20, .load1 (.t p19), none, 8⟩, ⟨some p21, .faddr 2 (.t p5), none, 0⟩, ⟨some p22, .loadN 3 (.t p21), none, 32⟩, ⟨some p23, .call (.c (.fn 116 [] [])) [(.t p22)], none, 96⟩, ⟨some p24, .faddr 5 (.t p5), none, 0⟩, ⟨some p25, .loadN 3 (.t p24), none, 256⟩, ⟨some p26, .call (.c (.fn 116 [] [])) [(.t p25)], none, 992⟩, ⟨some p27, .faddr 8 (.t p5), none, 0⟩, ⟨some p28, .load1 (.t p27), none, 2048⟩, ⟨some p29, .call (.c (.fn 78 [] [])) [(.t p28)], none, 8160⟩, ⟨some p30, .faddr 9 (.t p5), none, 0⟩, ⟨some p31, .load1 (.t p30), none, 16384⟩, ⟨some p32, .call (.c (.fn 78 [] [])) [(.t p31)], none, 65504⟩, ⟨some p33, .build [(.int .u8 (.ofNat 0)), (.int .i64 (.ofNat 0)), (.int .u8 (.ofNat 0)), (.int .i64 (.ofNat 0)), .nils, (.int .u8 (.ofNat 0)), (.int .i64 (.ofNat 0)), .nils, .nils, .nils] [(0, 1, (.t p18)), (1, 1, (.t p20)), (2, 3, (.t p23)), (5, 3, (.t p26)), (8, 1, (.t p29)), (9, 1, (.t p32))], none, 131070⟩, ⟨some p34, .buildSl [(.int .u8 (.ofNat 0)), (.int .i64 (.ofNat 0)), (.int .u8 (.ofNat 0)), (.int .i64 (.ofNat 0)), .nils, (.int .u8 (.ofNat 0)), (.int .i64 (.ofNat 0)), .nils, .nils, .nils] 1 [(0, 10, (.t p33))], none, 262142⟩, ⟨some p35, .app 10 (.t p16) (.t p34), none, 524287⟩, ⟨some p3, .mov (.t p35), none, 1048575⟩] true)))
 (.region [⟨some p10, .mov (.t p4), none, 0⟩, ⟨some p11, .bin .add (.t p10) (.c (.int .i64 (.ofNat 1))), none, 1⟩, ⟨some p4, .mov (.t p11), none, 3⟩] false))))))
 (.seq (.region [⟨some p36, .mov (.t p3), none, 0⟩, ⟨some p2, .mov (.t p36), none, 1⟩] false)
 .ret)))) }
theorem ok78 : cFn Try.prog 78 = some ef78 := by kernel_rfl
/-- setup.most[[][]api.Stmt] -/
def ef79 : EFn := { id := 79, N := 21, res := [(p4, none)], code := (.seq (.region [⟨some p4, .mov (.c (.int .i64 (.ofNat 0))), none, 0⟩] false)
 (.seq (.region [⟨some p5, .mov (.c (.int .i64 (.ofNat 0))), none, 0⟩] false)
 (.seq (.seq (.region [⟨some p8, .mov (.t p0), none, 0⟩, ⟨some p9, .len false (.t p8), none, 1⟩, ⟨some p10, .mov (.c (.int .i64 (.ofNat 0))), none, 0⟩] false)
 (.block 0 (.loop (.seq (.region [⟨some p11, .bin .lss (.t p10) (.t p9), none, 0⟩] false)
 (.seq (.cond (.t p11) .skip (.exit 0))
 (.seq (.block 1 (.seq (.region [⟨some p12, .iaddrS 1 (.t p8) (.t p10), none, 0⟩, ⟨some p13, .load1 (.t p12), none, 1⟩, ⟨some p7, .mov (.t p13), none, 3⟩] false)
 (.region [⟨some p14, .mov (.t p5), none, 0⟩, ⟨some p15, .mov (.t p1), none, 0⟩, ⟨some p16, .mov (.t p7), none, 0⟩, ⟨some p17, .call (.t p15) [(.t p16)], none, 6⟩, ⟨some p18, .max (.t p14) (.t p17), none, 15⟩, ⟨some p5, .mov (.t p18), none, 31⟩] false)))
 (.region [⟨some p19, .bin .add (.t p10) (.c (.int .i64 (.ofNat 1))), none, 0⟩, ⟨some p10, .mov (.t p19), none, 1⟩] false)))))))
 (.seq (.region [⟨some p20, .mov (.t p5), none, 0⟩, ⟨some p4, .mov (.t p20), none, 1⟩] false)
 .ret)))) }
theorem ok79 : cFn Try.prog 79 = some ef79 := by kernel_rfl
/-- setup.Cost$1 -/
def ef80 : EFn := { id := 80, N := 5, res := [(p2, none)], code := (.seq (.region [⟨some p2, .mov (.c (.int .i64 (.ofNat 0))), none, 0⟩] false)
 (.seq (.region [⟨some p3, .mov (.t p0), none, 0⟩, ⟨some p4, .call (.c (.fn 81 [] [])) [(.t p3), (.c (.fn 42 [] []))], none, 1⟩, ⟨some p2, .mov (.t p4), none, 3⟩] false)
 .ret)) }
theorem ok80 : cFn Try.prog 80 = some ef80 := by kernel_rfl
/-- setup.most[[]api.Stmt] -/
def ef81 : EFn := { id := 81, N := 21, res := [(p4, none)], code := (.seq (.region [⟨some p4, .mov (.c (.int .i64 (.ofNat 0))), none, 0⟩] false)
 (.seq (.region [⟨some p5, .mov (.c (.int .i64 (.ofNat 0))), none, 0⟩] false)
 (.seq (.seq (.region [⟨some p8, .mov (.t p0), none, 0⟩, ⟨some p9, .len false (.t p8), none, 1⟩, ⟨some p10, .mov (.c (.int .i64 (.ofNat 0))), none, 0⟩] false)
 (.block 0 (.loop (.seq (.region [⟨some p11, .bin .lss (.t p10) (.t p9), none, 0⟩] false)
 (.seq (.cond (.t p11) .skip (.exit 0))
 (.seq (.block 1 (.seq (.region [⟨some p12, .iaddrS 1 (.t p8) (.t p10), none, 0⟩, ⟨some p13, .load1 (.t p12), none, 1⟩, ⟨some p7, .mov (.t p13), none, 3⟩] false)
 (.region [⟨some p14, .mov (.t p5), none, 0⟩, ⟨some p15, .mov (.t p1), none, 0⟩, ⟨some p16, .mov (.t p7), none, 0⟩, ⟨some p17, .call (.t p15) [(.t p16)], none, 6⟩, ⟨some p18, .max (.t p14) (.t p17), none, 15⟩, ⟨some p5, .mov (.t p18), none, 31⟩] false)))
 (.region [⟨some p19, .bin .add (.t p10) (.c (.int .i64 (.ofNat 1))), none, 0⟩, ⟨some p10, .mov (.t p19), none, 1⟩] false)))))))
 (.seq (.region [⟨some p20, .mov (.t p5), none, 0⟩, ⟨some p4, .mov (.t p20), none, 1⟩] false)
 .ret)))) }
theorem ok81 : cFn Try.prog 81 = some ef81 := by kernel_rfl
/-- code.nodes -/
def ef107 : EFn := { id := 107, N := 8, res := [(p2, none)], code := (.seq (.region [⟨some p1, .box (.t p0), none, 0⟩, ⟨some p2, .mov (.c (.int .i64 (.ofNat 0))), none, 0⟩] false)
 (.seq (.seq (.region [⟨some p3, .faddr 0 (.t p1), none, 0⟩, ⟨some p4, .load1 (.t p3), none, 1⟩, ⟨some p5, .bin .eql (.t p4) (.c (.int .u8 (.ofNat 0))), none, 3⟩] false)
 (.cond (.t p5) (.seq (.region [⟨some p2, .mov (.c (.int .i64 (.ofNat 0))), none, 0⟩] false)
 .ret) .skip))
 (.seq (.region [⟨some p6, .loadN 3 (.t p1), none, 0⟩, ⟨some p7, .call (.c (.fn 134 [] [])) [(.t p6)], none, 1⟩, ⟨some p2, .mov (.t p7), none, 3⟩] false)
 .ret))) }
theorem ok107 : cFn Try.prog 107 = some ef107 := by kernel_rfl
/-- code.all$1 -/
def ef108 : EFn := { id := 108, N := 6, res := [], code := (.region [⟨some p3, .load1 (.t p1), none, 0⟩, ⟨some p4, .mov (.t p0), none, 0⟩, ⟨some p5, .call (.c (.fn 109 [] [])) [(.t p3), (.t p4)], none, 3⟩] false) }
theorem ok108 : cFn Try.prog 108 = some ef108 := by kernel_rfl
/-- code.each -/
def ef109 : EFn := { id := 109, N := 32, res := [(p4, none)], code := (.seq (.region [⟨some p4, .mov (.c (.bool false)), none, 0⟩] false)
 (.seq (.seq (.region [⟨some p7, .mov (.t p0), none, 0⟩, ⟨some p8, .len false (.t p7), none, 1⟩, ⟨some p9, .mov (.c (.int .i64 (.ofNat 0))), none, 0⟩] false)
 (.block 0 (.loop (.seq (.region [⟨some p10, .bin .lss (.t p9) (.t p8), none, 0⟩] false)
 (.seq (.cond (.t p10) .skip (.exit 0))
 (.seq (.block 1 (.seq (.region [⟨some p11, .iaddrS 10 (.t p7) (.t p9), none, 0⟩, ⟨some p12, .loadN 10 (.t p11), none, 1⟩, ⟨some p6, .alloc [(.int .u8 (.ofNat 0)), (.int .i64 (.ofNat 0)), (.int .u8 (.ofNat 0)), (.int .i64 (.ofNat 0)), .nils, (.int .u8 (.ofNat 0)), (.int .i64 (.ofNat 0)), .nils, .nils, .nils], none, 0⟩, ⟨none, .store 10 (.t p6) (.t p12), none, 7⟩] false)
 (.seq (.region [⟨some p13, .mov (.t p1), none, 0⟩, ⟨some p14, .loadN 10 (.t p6), none, 0⟩, ⟨some p15, .call (.t p13) [(.t p14)], none, 3⟩, ⟨some p16, .un .not (.t p15), none, 7⟩, ⟨some p17, .mov (.t p16), none, 15⟩, ⟨some p18, .faddr 8 (.t p6), some (p17, false), 31⟩, ⟨some p19, .load1 (.t p18), some (p17, false), 63⟩, ⟨some p20, .mov (.t p1), some (p17, false), 31⟩, ⟨some p21, .call (.c (.fn 109 [] [])) [(.t p19), (.t p20)], some (p17, false), 255⟩, ⟨some p22, .un .not (.t p21), some (p17, false), 511⟩, ⟨some p23, .pick (.t p17) (.c (.bool true)) (.t p22), none, 1023⟩, ⟨some p24, .mov (.t p23), none, 2047⟩, ⟨some p25, .faddr 9 (.t p6), some (p24, false), 4095⟩, ⟨some p26, .load1 (.t p25), some (p24, false), 8191⟩, ⟨some p27, .mov (.t p1), some (p24, false), 4095⟩, ⟨some p28, .call (.c (.fn 109 [] [])) [(.t p26), (.t p27)], some (p24, false), 32767⟩, ⟨some p29, .un .not (.t p28), some (p24, false), 65535⟩, ⟨some p30, .pick (.t p24) (.c (.bool true)) (.t p29), none, 131071⟩] false)
 (.cond (.t p30) (.seq (.region [⟨some p4, .mov (.c (.bool false)), none, 0⟩] false)
 .ret) .skip))))
 (.region [⟨some p31, .bin .add (.t p9) (.c (.int .i64 (.ofNat 1))), none, 0⟩, ⟨some p9, .mov (.t p31), none, 1⟩] false)))))))
 (.seq (.region [⟨some p4, .mov (.c (.bool true)), none, 0⟩] false)
 .ret))) }
theorem ok109 : cFn Try.prog 109 = some ef109 := by kernel_rfl
/-- code.of -/
def ef110 : EFn := { id := 110, N := 20, res := [(p2, some (some 6))], code := (.seq (.region [⟨some p2, .alloc [(.bool false), (.bool false), (.bool false), (.bool false), (.bool false), (.bool false)], none, 0⟩] false)
 (.seq (.region [⟨some p4, .build [(.bool false), (.bool false), (.bool false), (.bool false), (.bool false), (.bool false)] [(0, 1, (.c (.bool true))), (1, 1, (.c (.bool true))), (2, 1, (.c (.bool true)))], none, 0⟩, ⟨some p5, .build [(.bool false), (.bool false), (.bool false), (.bool false), (.bool false), (.bool false)] [(0, 1, (.c (.bool true))), (1, 1, (.c (.bool true))), (2, 1, (.c (.bool true)))], none, 0⟩, ⟨some p6, .build [(.bool false), (.bool false), (.bool false), (.bool false), (.bool false), (.bool false)] [(0, 1, (.c (.bool true))), (2, 1, (.c (.bool true))), (3, 1, (.c (.bool true)))], none, 0⟩, ⟨some p7, .build [(.bool false), (.bool false), (.bool false), (.bool false), (.bool false), (.bool false)] [(0, 1, (.c (.bool true))), (2, 1, (.c (.bool true))), (4, 1, (.c (.bool true))), (5, 1, (.c (.bool true)))], none, 0⟩, ⟨some p8, .build [(.bool false), (.bool false), (.bool false), (.bool false), (.bool false), (.bool false)] [(0, 1, (.c (.bool true))), (2, 1, (.c (.bool true))), (4, 1, (.c (.bool true)))], none, 0⟩, ⟨some p9, .build [(.bool false), (.bool false), (.bool false), (.bool false), (.bool false), (.bool false)] [(0, 1, (.c (.bool true)))], none, 0⟩, ⟨some p10, .build [(.bool false), (.bool false), (.bool false), (.bool false), (.bool false), (.bool false)] [(0, 1, (.c (.bool true))), (4, 1, (.c (.bool true))), (5, 1, (.c (.bool true)))], none, 0⟩, ⟨some p11, .build [(.bool false), (.bool false), (.bool false), (.bool false), (.bool false), (.bool false)] [(0, 1, (.c (.bool true))), (2, 1, (.c (.bool true)))], none, 0⟩, ⟨some p12, .build [(.bool false), (.bool false), (.bool false), (.bool false), (.bool false), (.bool false), (.bool false), (.bool false), (.bool false), (.bool false), (.bool false), (.bool false), (.bool false), (.bool false), (.bool false), (.bool false), (.bool false), (.bool false), (.bool false), (.bool false), (.bool false), (.bool false), (.bool false), (.bool false), (.bool false), (.bool false), (.bool false), (.bool false), (.bool false), (.bool false), (.bool false), (.bool false), (.bool false), (.bool false), (.bool false), (.bool false), (.bool false), (.bool false), (.bool false), (.bool false), (.bool false), (.bool false), (.bool false), (.bool false), (.bool false), (.bool false), (.bool false), (.bool false), (.bool false), (.bool false), (.bool false), (.bool false), (.bool false), (.bool false)] [(6, 6, (.t p4)), (12, 6, (.t p5)), (18, 6, (.t p6)), (24, 6, (.t p7)), (30, 6, (.t p8)), (36, 6, (.t p9)), (42, 6, (.t p10)), (48, 6, (.t p11))], none, 255⟩, ⟨some p3, .alloc [(.bool false), (.bool false), (.bool false), (.bool false), (.bool false), (.bool false), (.bool false), (.bool false), (.bool false), (.bool false), (.bool false), (.bool false), (.bool false), (.bool false), (.bool false), (.bool false), (.bool false), (.bool false), (.bool false), (.bool false), (.bool false), (.bool false), (.bool false), (.bool false), (.bool false), (.bool false), (.bool false), (.bool false), (.bool false), (.bool false), (.bool false), (.bool false), (.bool false), (.bool false), (.bool false), (.bool false), (.bool false), (.bool false), (.bool false), (.bool false), (.bool false), (.bool false), (.bool false), (.bool false), (.bool false), (.bool false), (.bool false), (.bool false), (.bool false), (.bool false), (.bool false), (.bool false), (.bool false), (.bool false)], none, 0⟩, ⟨none, .store 54 (.t p3) (.t p12), none, 1023⟩] false)
 (.seq (.seq (.region [⟨some p13, .mov (.t p0), none, 0⟩, ⟨some p14, .conv .i64 (.t p13), none, 1⟩, ⟨some p15, .bin .geq (.t p14) (.c (.int .i64 (.ofNat 9))), none, 3⟩] false)
 (.cond (.t p15) (.seq (.region [⟨some p16, .build [(.bool false), (.bool false), (.bool false), (.bool false), (.bool false), (.bool false)] [], none, 0⟩, ⟨none, .store 6 (.t p2) (.t p16), none, 1⟩] false)
 .ret) .skip))
 (.seq (.region [⟨some p17, .mov (.t p0), none, 0⟩, ⟨some p18, .iaddrA 9 6 (.t p3) (.t p17), none, 1⟩, ⟨some p19, .loadN 6 (.t p18), none, 3⟩, ⟨none, .store 6 (.t p2) (.t p19), none, 7⟩] false)
 .ret)))) }
theorem ok110 : cFn Try.prog 110 = some ef110 := by kernel_rfl
/-- code.shaped$1 -/
def ef111 : EFn := { id := 111, N := 12, res := [(p5, none)], code := (.seq (.region [⟨some p4, .box (.t p1), none, 0⟩, ⟨some p5, .mov (.c (.bool false)), none, 0⟩] false)
 (.seq (.seq (.region [⟨some p6, .mov (.t p0), none, 0⟩] false)
 (.cond (.t p6) (.seq (.region [⟨some p7, .loadN 3 (.t p4), none, 0⟩, ⟨some p8, .load1 (.t p2), none, 0⟩, ⟨some p9, .call (.c (.fn 112 [] [])) [(.t p7), (.t p8)], none, 3⟩, ⟨some p5, .mov (.t p9), none, 7⟩] false)
 .ret) .skip))
 (.seq (.region [⟨some p10, .loadN 3 (.t p4), none, 0⟩, ⟨some p11, .call (.c (.fn 113 [] [])) [(.t p10)], none, 1⟩, ⟨some p5, .mov (.t p11), none, 3⟩] false)
 .ret))) }
theorem ok111 : cFn Try.prog 111 = some ef111 := by kernel_rfl
/-- expr.May -/
def ef112 : EFn := { id := 112, N := 12, res := [(p4, none)], code := (.seq (.region [⟨some p2, .box (.t p0), none, 0⟩, ⟨some p4, .mov (.c (.bool false)), none, 0⟩] false)
 (.seq (.region [⟨some p5, .loadN 3 (.t p2), none, 0⟩, ⟨some p6, .call (.c (.fn 135 [] [])) [(.t p5)], none, 1⟩, ⟨some p7, .mov (.t p6), none, 3⟩, ⟨some p8, .loadN 3 (.t p2), some (p7, true), 7⟩, ⟨some p9, .mov (.t p1), some (p7, true), 7⟩, ⟨some p10, .call (.c (.fn 136 [] [])) [(.t p8), (.t p9)], some (p7, true), 31⟩, ⟨some p11, .pick (.t p7) (.t p10) (.c (.bool false)), none, 63⟩, ⟨some p4, .mov (.t p11), none, 127⟩] false)
 .ret)) }
theorem ok112 : cFn Try.prog 112 = some ef112 := by kernel_rfl
/-- code.none -/
def ef113 : EFn := { id := 113, N := 17, res := [(p2, none)], code := (.seq (.region [⟨some p1, .box (.t p0), none, 0⟩, ⟨some p2, .mov (.c (.bool false)), none, 0⟩] false)
 (.seq (.region [⟨some p3, .faddr 0 (.t p1), none, 0⟩, ⟨some p4, .load1 (.t p3), none, 1⟩, ⟨some p5, .bin .eql (.t p4) (.c (.int .u8 (.ofNat 0))), none, 3⟩, ⟨some p6, .mov (.t p5), none, 7⟩, ⟨some p7, .faddr 1 (.t p1), some (p6, true), 15⟩, ⟨some p8, .load1 (.t p7), some (p6, true), 31⟩, ⟨some p9, .bin .eql (.t p8) (.c (.int .i64 (.ofNat 0))), some (p6, true), 63⟩, ⟨some p10, .pick (.t p6) (.t p9) (.c (.bool false)), none, 127⟩, ⟨some p11, .mov (.t p10), none, 255⟩, ⟨some p12, .faddr 2 (.t p1), some (p11, true), 511⟩, ⟨some p13, .load1 (.t p12), some (p11, true), 1023⟩, ⟨some p14, .len false (.t p13), some (p11, true), 2047⟩, ⟨some p15, .bin .eql (.t p14) (.c (.int .i64 (.ofNat 0))), some (p11, true), 4095⟩, ⟨some p16, .pick (.t p11) (.t p15) (.c (.bool false)), none, 8191⟩, ⟨some p2, .mov (.t p16), none, 16383⟩] false)
 .ret)) }
theorem ok113 : cFn Try.prog 113 = some ef113 := by kernel_rfl
/-- seesawref04.Copy -/
def ef116 : EFn := { id := 116, N := 29, res := [(p2, some (some 3))], code := (.seq (.region [⟨some p1, .box (.t p0), none, 0⟩, ⟨some p2, .alloc [(.int .u8 (.ofNat 0)), (.int .i64 (.ofNat 0)), .nils], none, 0⟩] false)
 (.seq (.region [⟨some p5, .faddr 0 (.t p1), none, 0⟩, ⟨some p6, .load1 (.t p5), none, 1⟩, ⟨some p7, .faddr 1 (.t p1), none, 0⟩, ⟨some p8, .load1 (.t p7), none, 4⟩, ⟨some p9, .build [(.int .u8 (.ofNat 0)), (.int .i64 (.ofNat 0)), .nils] [(0, 1, (.t p6)), (1, 1, (.t p8))], none, 15⟩, ⟨some p3, .alloc [(.int .u8 (.ofNat 0)), (.int .i64 (.ofNat 0)), .nils], none, 0⟩, ⟨none, .store 3 (.t p3) (.t p9), none, 63⟩] false)
 (.seq (.seq (.region [⟨some p4, .mov (.c (.int .i64 (.ofNat 0))), none, 0⟩] false)
 (.block 0 (.loop (.seq (.seq (.region [⟨some p10, .mov (.t p4), none, 0⟩, ⟨some p11, .faddr 2 (.t p1), none, 0⟩, ⟨some p12, .load1 (.t p11), none, 2⟩, ⟨some p13, .len false (.t p12), none, 6⟩, ⟨some p14, .bin .lss (.t p10) (.t p13), none, 15⟩] false)
 (.cond (.t p14) .skip (.exit 0)))
 (.seq (.block 1 (.region [⟨some p17, .faddr 2 (.t p3), none, 0⟩, ⟨some p18, .load1 (.t p17), none, 1⟩, ⟨some p19, .faddr 2 (.t p1), none, 0⟩, ⟨some p20, .load1 (.t p19), none, 4⟩, ⟨some p21, .mov (.t p4), none, 0⟩, ⟨some p22, .iaddrS 3 (.t p20) (.t p21), none, 28⟩, ⟨some p23, .loadN 3 (.t p22), none, 60⟩, ⟨some p24, .call (.c (.fn 116 [] [])) [(.t p23)], none, 124⟩, ⟨some p25, .buildSl [(.int .u8 (.ofNat 0)), (.int .i64 (.ofNat 0)), .nils] 1 [(0, 3, (.t p24))], none, 252⟩, ⟨some p26, .app 3 (.t p18) (.t p25), none, 511⟩, ⟨some p27, .faddr 2 (.t p3), none, 1023⟩, ⟨none, .store 1 (.t p27) (.t p26), none, 2047⟩] true))
 (.region [⟨some p15, .mov (.t p4), none, 0⟩, ⟨some p16, .bin .add (.t p15) (.c (.int .i64 (.ofNat 1))), none, 1⟩, ⟨some p4, .mov (.t p16), none, 3⟩] false))))))
 (.seq (.region [⟨some p28, .loadN 3 (.t p3), none, 0⟩, ⟨none, .store 3 (.t p2) (.t p28), none, 1⟩] false)
 .ret)))) }
theorem ok116 : cFn Try.prog 116 = some ef116 := by kernel_rfl
/-- expr.Count -/
def ef134 : EFn := { id := 134, N := 19, res := [(p2, none)], code := (.seq (.region [⟨some p1, .box (.t p0), none, 0⟩, ⟨some p2, .mov (.c (.int .i64 (.ofNat 0))), none, 0⟩] false)
 (.seq (.region [⟨some p3, .mov (.c (.int .i64 (.ofNat 1))), none, 0⟩] false)
 (.seq (.seq (.region [⟨some p6, .faddr 2 (.t p1), none, 0⟩, ⟨some p7, .load1 (.t p6), none, 1⟩, ⟨some p8, .len false (.t p7), none, 3⟩, ⟨some p9, .mov (.c (.int .i64 (.ofNat 0))), none, 0⟩] false)
 (.block 0 (.loop (.seq (.region [⟨some p10, .bin .lss (.t p9) (.t p8), none, 0⟩] false)
 (.seq (.cond (.t p10) .skip (.exit 0))
 (.seq (.block 1 (.seq (.region [⟨some p11, .iaddrS 3 (.t p7) (.t p9), none, 0⟩, ⟨some p12, .loadN 3 (.t p11), none, 1⟩, ⟨some p5, .alloc [(.int .u8 (.ofNat 0)), (.int .i64 (.ofNat 0)), .nils], none, 0⟩, ⟨none, .store 3 (.t p5) (.t p12), none, 7⟩] false)
 (.region [⟨some p13, .mov (.t p3), none, 0⟩, ⟨some p14, .loadN 3 (.t p5), none, 0⟩, ⟨some p15, .call (.c (.fn 134 [] [])) [(.t p14)], none, 2⟩, ⟨some p16, .bin .add (.t p13) (.t p15), none, 7⟩, ⟨some p3, .mov (.t p16), none, 15⟩] false)))
 (.region [⟨some p17, .bin .add (.t p9) (.c (.int .i64 (.ofNat 1))), none, 0⟩, ⟨some p9, .mov (.t p17), none, 1⟩] false)))))))
 (.seq (.region [⟨some p18, .mov (.t p3), none, 0⟩, ⟨some p2, .mov (.t p18), none, 1⟩] false)
 .ret)))) }
theorem ok134 : cFn Try.prog 134 = some ef134 := by kernel_rfl
/-- expr.Whole -/
def ef135 : EFn := { id := 135, N := 5, res := [(p2, none)], code := (.seq (.region [⟨some p1, .box (.t p0), none, 0⟩, ⟨some p2, .mov (.c (.bool false)), none, 0⟩] false)
 (.seq (.region [⟨some p3, .loadN 3 (.t p1), none, 0⟩, ⟨some p4, .call (.c (.fn 149 [] [])) [(.t p3), (.c (.int .i64 (.ofNat 6)))], none, 1⟩, ⟨some p2, .mov (.t p4), none, 3⟩] false)
 .ret)) }
theorem ok135 : cFn Try.prog 135 = some ef135 := by kernel_rfl
/-- expr.below -/
def ef136 : EFn := { id := 136, N := 19, res := [(p4, none)], code := (.seq (.region [⟨some p2, .box (.t p0), none, 0⟩, ⟨some p3, .box (.t p1), none, 0⟩, ⟨some p4, .mov (.c (.bool false)), none, 0⟩] false)
 (.seq (.seq (.region [⟨some p5, .faddr 0 (.t p2), none, 0⟩, ⟨some p6, .load1 (.t p5), none, 1⟩, ⟨some p7, .bin .eql (.t p6) (.c (.int .u8 (.ofNat 3))), none, 3⟩, ⟨some p8, .mov (.t p7), none, 7⟩, ⟨some p9, .faddr 1 (.t p2), some (p8, true), 15⟩, ⟨some p10, .load1 (.t p9), some (p8, true), 31⟩, ⟨some p11, .load1 (.t p3), some (p8, true), 15⟩, ⟨some p12, .bin .geq (.t p10) (.t p11), some (p8, true), 127⟩, ⟨some p13, .pick (.t p8) (.t p12) (.c (.bool false)), none, 255⟩] false)
 (.cond (.t p13) (.seq (.region [⟨some p4, .mov (.c (.bool false)), none, 0⟩] false)
 .ret) .skip))
 (.seq (.region [⟨some p14, .faddr 2 (.t p2), none, 0⟩, ⟨some p15, .load1 (.t p14), none, 1⟩, ⟨some p16, .mkfn 151 [] [(.t p3)], none, 0⟩, ⟨some p17, .call (.c (.fn 150 [] [])) [(.t p15), (.t p16)], none, 7⟩, ⟨some p18, .un .not (.t p17), none, 15⟩, ⟨some p4, .mov (.t p18), none, 31⟩] false)
 .ret))) }
theorem ok136 : cFn Try.prog 136 = some ef136 := by kernel_rfl
/-- expr.whole -/
def ef149 : EFn := { id := 149, N := 84, res := [(p4, none)], code := (.seq (.region [⟨some p2, .box (.t p0), none, 0⟩, ⟨some p4, .mov (.c (.bool false)), none, 0⟩] false)
 (.seq (.region [⟨some p6, .faddr 2 (.t p2), none, 0⟩, ⟨some p7, .load1 (.t p6), none, 1⟩, ⟨some p8, .len false (.t p7), none, 3⟩, ⟨some p9, .bin .eql (.t p8) (.c (.int .i64 (.ofNat 0))), none, 7⟩, ⟨some p5, .mov (.t p9), none, 15⟩] false)
 (.seq (.block 0 (.seq (.region [⟨some p11, .mov (.t p1), none, 0⟩, ⟨some p12, .bin .lss (.t p11) (.c (.int .i64 (.ofNat 1))), none, 1⟩, ⟨some p10, .mov (.t p12), none, 3⟩] false)
 (.cond (.t p10) (.seq (.region [⟨some p4, .mov (.c (.bool false)), none, 0⟩] false)
 .ret) (.seq (.region [⟨some p14, .faddr 0 (.t p2), none, 0⟩, ⟨some p15, .load1 (.t p14), none, 1⟩, ⟨some p16, .bin .eql (.t p15) (.c (.int .u8 (.ofNat 1))), none, 3⟩, ⟨some p13, .mov (.t p16), none, 7⟩] false)
 (.cond (.t p13) (.seq (.region [⟨some p17, .mov (.t p5), none, 0⟩, ⟨some p4, .mov (.t p17), none, 1⟩] false)
 .ret) (.seq (.region [⟨some p19, .faddr 0 (.t p2), none, 0⟩, ⟨some p20, .load1 (.t p19), none, 1⟩, ⟨some p21, .bin .eql (.t p20) (.c (.int .u8 (.ofNat 2))), none, 3⟩, ⟨some p18, .mov (.t p21), none, 7⟩] false)
 (.cond (.t p18) (.seq (.region [⟨some p22, .mov (.t p5), none, 0⟩, ⟨some p23, .mov (.t p22), none, 1⟩, ⟨some p24, .faddr 1 (.t p2), some (p23, true), 3⟩, ⟨some p25, .load1 (.t p24), some (p23, true), 7⟩, ⟨some p26, .bin .geq (.t p25) (.c (.int .i64 (.ofNat 0))), some (p23, true), 15⟩, ⟨some p27, .pick (.t p23) (.t p26) (.c (.bool false)), none, 31⟩, ⟨some p28, .mov (.t p27), none, 63⟩, ⟨some p29, .faddr 1 (.t p2), some (p28, true), 127⟩, ⟨some p30, .load1 (.t p29), some (p28, true), 255⟩, ⟨some p31, .bin .lss (.t p30) (.c (.int .i64 (.ofNat 8))), some (p28, true), 511⟩, ⟨some p32, .pick (.t p28) (.t p31) (.c (.bool false)), none, 1023⟩, ⟨some p4, .mov (.t p32), none, 2047⟩] false)
 .ret) (.seq (.region [⟨some p34, .faddr 0 (.t p2), none, 0⟩, ⟨some p35, .load1 (.t p34), none, 1⟩, ⟨some p36, .bin .eql (.t p35) (.c (.int .u8 (.ofNat 3))), none, 3⟩, ⟨some p33, .mov (.t p36), none, 7⟩] false)
 (.cond (.t p33) (.seq (.region [⟨some p37, .mov (.t p5), none, 0⟩, ⟨some p38, .mov (.t p37), none, 1⟩, ⟨some p39, .faddr 1 (.t p2), some (p38, true), 3⟩, ⟨some p40, .load1 (.t p39), some (p38, true), 7⟩, ⟨some p41, .bin .geq (.t p40) (.c (.int .i64 (.ofNat 0))), some (p38, true), 15⟩, ⟨some p42, .pick (.t p38) (.t p41) (.c (.bool false)), none, 31⟩, ⟨some p43, .mov (.t p42), none, 63⟩, ⟨some p44, .faddr 1 (.t p2), some (p43, true), 127⟩, ⟨some p45, .load1 (.t p44), some (p43, true), 255⟩, ⟨some p46, .bin .lss (.t p45) (.c (.int .i64 (.ofNat 6))), some (p43, true), 511⟩, ⟨some p47, .pick (.t p43) (.t p46) (.c (.bool false)), none, 1023⟩, ⟨some p4, .mov (.t p47), none, 2047⟩] false)
 .ret) (.seq (.region [⟨some p49, .faddr 0 (.t p2), none, 0⟩, ⟨some p50, .load1 (.t p49), none, 1⟩, ⟨some p51, .bin .lss (.t p50) (.c (.int .u8 (.ofNat 4))), none, 3⟩, ⟨some p52, .mov (.t p51), none, 7⟩, ⟨some p53, .faddr 0 (.t p2), some (p52, false), 15⟩, ⟨some p54, .load1 (.t p53), some (p52, false), 31⟩, ⟨some p55, .bin .gtr (.t p54) (.c (.int .u8 (.ofNat 8))), some (p52, false), 63⟩, ⟨some p56, .pick (.t p52) (.c (.bool true)) (.t p55), none, 127⟩, ⟨some p57, .mov (.t p56), none, 255⟩, ⟨some p58, .faddr 1 (.t p2), some (p57, false), 511⟩, ⟨some p59, .load1 (.t p58), some (p57, false), 1023⟩, ⟨some p60, .bin .neq (.t p59) (.c (.int .i64 (.ofNat 0))), some (p57, false), 2047⟩, ⟨some p61, .pick (.t p57) (.c (.bool true)) (.t p60), none, 4095⟩, ⟨some p62, .mov (.t p61), none, 8191⟩, ⟨some p63, .faddr 2 (.t p2), some (p62, false), 16383⟩, ⟨some p64, .load1 (.t p63), some (p62, false), 32767⟩, ⟨some p65, .len false (.t p64), some (p62, false), 65535⟩, ⟨some p66, .bin .neq (.t p65) (.c (.int .i64 (.ofNat 2))), some (p62, false), 131071⟩, ⟨some p67, .pick (.t p62) (.c (.bool true)) (.t p66), none, 262143⟩, ⟨some p48, .mov (.t p67), none, 524287⟩] false)
 (.cond (.t p48) (.seq (.region [⟨some p4, .mov (.c (.bool false)), none, 0⟩] false)
 .ret) .skip)))))))))))
 (.seq (.region [⟨some p68, .faddr 2 (.t p2), none, 0⟩, ⟨some p69, .load1 (.t p68), none, 1⟩, ⟨some p70, .iaddrS 3 (.t p69) (.c (.int .i64 (.ofNat 0))), none, 3⟩, ⟨some p71, .loadN 3 (.t p70), none, 7⟩, ⟨some p72, .mov (.t p1), none, 0⟩, ⟨some p73, .bin .sub (.t p72) (.c (.int .i64 (.ofNat 1))), none, 16⟩, ⟨some p74, .call (.c (.fn 149 [] [])) [(.t p71), (.t p73)], none, 63⟩, ⟨some p75, .mov (.t p74), none, 127⟩, ⟨some p76, .faddr 2 (.t p2), some (p75, true), 255⟩, ⟨some p77, .load1 (.t p76), some (p75, true), 511⟩, ⟨some p78, .iaddrS 3 (.t p77) (.c (.int .i64 (.ofNat 1))), some (p75, true), 1023⟩, ⟨some p79, .loadN 3 (.t p78), some (p75, true), 2047⟩, ⟨some p80, .mov (.t p1), some (p75, true), 255⟩, ⟨some p81, .bin .sub (.t p80) (.c (.int .i64 (.ofNat 1))), some (p75, true), 4351⟩, ⟨some p82, .call (.c (.fn 149 [] [])) [(.t p79), (.t p81)], some (p75, true), 16383⟩, ⟨some p83, .pick (.t p75) (.t p82) (.c (.bool false)), none, 32767⟩, ⟨some p4, .mov (.t p83), none, 65535⟩] false)
 .ret)))) }
theorem ok149 : cFn Try.prog 149 = some ef149 := by kernel_rfl
/-- slices.ContainsFunc[[]api.Expr,api.Expr] -/
def ef150 : EFn := { id := 150, N := 9, res := [(p4, none)], code := (.seq (.region [⟨some p4, .mov (.c (.bool false)), none, 0⟩] false)
 (.seq (.region [⟨some p5, .mov (.t p0), none, 0⟩, ⟨some p6, .mov (.t p1), none, 0⟩, ⟨some p7, .call (.c (.fn 158 [] [])) [(.t p5), (.t p6)], none, 3⟩, ⟨some p8, .bin .geq (.t p7) (.c (.int .i64 (.ofNat 0))), none, 7⟩, ⟨some p4, .mov (.t p8), none, 15⟩] false)
 .ret)) }
theorem ok150 : cFn Try.prog 150 = some ef150 := by kernel_rfl
/-- expr.below$1 -/
def ef151 : EFn := { id := 151, N := 8, res := [(p3, none)], code := (.seq (.region [⟨some p2, .box (.t p0), none, 0⟩, ⟨some p3, .mov (.c (.bool false)), none, 0⟩] false)
 (.seq (.region [⟨some p4, .loadN 3 (.t p2), none, 0⟩, ⟨some p5, .load1 (.t p1), none, 0⟩, ⟨some p6, .call (.c (.fn 136 [] [])) [(.t p4), (.t p5)], none, 3⟩, ⟨some p7, .un .not (.t p6), none, 7⟩, ⟨some p3, .mov (.t p7), none, 15⟩] false)
 .ret)) }
theorem ok151 : cFn Try.prog 151 = some ef151 := by kernel_rfl
/-- slices.IndexFunc[[]api.Expr,api.Expr] -/
def ef158 : EFn := { id := 158, N := 19, res := [(p4, none)], code := (.seq (.region [⟨some p4, .mov (.c (.int .i64 (.ofNat 0))), none, 0⟩] false)
 (.seq (.seq (.region [⟨some p6, .mov (.t p0), none, 0⟩, ⟨some p7, .len false (.t p6), none, 1⟩, ⟨some p8, .mov (.c (.int .i64 (.ofNat 0))), none, 0⟩] false)
 (.block 0 (.loop (.seq (.region [⟨some p9, .bin .lss (.t p8) (.t p7), none, 0⟩] false)
 (.seq (.cond (.t p9) .skip (.exit 0))
 (.seq (.block 1 (.seq (.region [⟨some p10, .mov (.t p8), none, 0⟩, ⟨some p5, .mov (.t p10), none, 1⟩] false)
 (.seq (.region [⟨some p11, .mov (.t p1), none, 0⟩, ⟨some p12, .mov (.t p0), none, 0⟩, ⟨some p13, .mov (.t p5), none, 0⟩, ⟨some p14, .iaddrS 3 (.t p12) (.t p13), none, 6⟩, ⟨some p15, .loadN 3 (.t p14), none, 14⟩, ⟨some p16, .call (.t p11) [(.t p15)], none, 31⟩] false)
 (.cond (.t p16) (.seq (.region [⟨some p17, .mov (.t p5), none, 0⟩, ⟨some p4, .mov (.t p17), none, 1⟩] false)
 .ret) .skip))))
 (.region [⟨some p18, .bin .add (.t p8) (.c (.int .i64 (.ofNat 1))), none, 0⟩, ⟨some p8, .mov (.t p18), none, 1⟩] false)))))))
 (.seq (.region [⟨some p4, .mov (.c (.int .i64 (.negSucc 0))), none, 0⟩] false)
 .ret))) }
theorem ok158 : cFn Try.prog 158 = some ef158 := by kernel_rfl
noncomputable def ft : Tri EFn := mkFT [ef11, ef28, ef29, ef31, ef33, ef37, ef42, ef43, ef46, ef47, ef48, ef70, ef72, ef73, ef77, ef78, ef79, ef80, ef81, ef107, ef108, ef109, ef110, ef111, ef112, ef113, ef116, ef134, ef135, ef136, ef149, ef150, ef151, ef158]
theorem ftok : FTok Try.prog ft := FTok.cons ok11 (FTok.cons ok28 (FTok.cons ok29 (FTok.cons ok31 (FTok.cons ok33 (FTok.cons ok37 (FTok.cons ok42 (FTok.cons ok43 (FTok.cons ok46 (FTok.cons ok47 (FTok.cons ok48 (FTok.cons ok70 (FTok.cons ok72 (FTok.cons ok73 (FTok.cons ok77 (FTok.cons ok78 (FTok.cons ok79 (FTok.cons ok80 (FTok.cons ok81 (FTok.cons ok107 (FTok.cons ok108 (FTok.cons ok109 (FTok.cons ok110 (FTok.cons ok111 (FTok.cons ok112 (FTok.cons ok113 (FTok.cons ok116 (FTok.cons ok134 (FTok.cons ok135 (FTok.cons ok136 (FTok.cons ok149 (FTok.cons ok150 (FTok.cons ok151 (FTok.cons ok158 (FTok.nil _))))))))))))))))))))))))))))))))))
end Go.Proofs.Ytonckpblbdopmaa.Rk
