/-
  What the machine runs: the first functions.
-/
import Derived.Test.YtkbjonoiecljiaaGreatDoorDxExt
namespace KD
open Go Go.Dx
abbrev p0 : Lb := []
abbrev p1 : Lb := [true]
abbrev p2 : Lb := [false, true]
abbrev p3 : Lb := [true, true]
abbrev p4 : Lb := [false, false, true]
abbrev p5 : Lb := [true, false, true]
abbrev p6 : Lb := [false, true, true]
abbrev p7 : Lb := [true, true, true]
abbrev p8 : Lb := [false, false, false, true]
abbrev p9 : Lb := [true, false, false, true]
abbrev p10 : Lb := [false, true, false, true]
abbrev p11 : Lb := [true, true, false, true]
abbrev p12 : Lb := [false, false, true, true]
abbrev p13 : Lb := [true, false, true, true]
abbrev p14 : Lb := [false, true, true, true]
abbrev p15 : Lb := [true, true, true, true]
abbrev p16 : Lb := [false, false, false, false, true]
abbrev p17 : Lb := [true, false, false, false, true]
abbrev p18 : Lb := [false, true, false, false, true]
abbrev p19 : Lb := [true, true, false, false, true]
abbrev p20 : Lb := [false, false, true, false, true]
abbrev p21 : Lb := [true, false, true, false, true]
abbrev p22 : Lb := [false, true, true, false, true]
abbrev p23 : Lb := [true, true, true, false, true]
abbrev p24 : Lb := [false, false, false, true, true]
abbrev p25 : Lb := [true, false, false, true, true]
abbrev p26 : Lb := [false, true, false, true, true]
abbrev p27 : Lb := [true, true, false, true, true]
abbrev p28 : Lb := [false, false, true, true, true]
abbrev p29 : Lb := [true, false, true, true, true]
abbrev p30 : Lb := [false, true, true, true, true]
abbrev p31 : Lb := [true, true, true, true, true]
abbrev p32 : Lb := [false, false, false, false, false, true]
abbrev p33 : Lb := [true, false, false, false, false, true]
abbrev p34 : Lb := [false, true, false, false, false, true]
abbrev p35 : Lb := [true, true, false, false, false, true]
abbrev p36 : Lb := [false, false, true, false, false, true]
abbrev p37 : Lb := [true, false, true, false, false, true]
abbrev p38 : Lb := [false, true, true, false, false, true]
abbrev p39 : Lb := [true, true, true, false, false, true]
abbrev p40 : Lb := [false, false, false, true, false, true]
abbrev p41 : Lb := [true, false, false, true, false, true]
abbrev p42 : Lb := [false, true, false, true, false, true]
abbrev p43 : Lb := [true, true, false, true, false, true]
abbrev p44 : Lb := [false, false, true, true, false, true]
abbrev p45 : Lb := [true, false, true, true, false, true]
abbrev p46 : Lb := [false, true, true, true, false, true]
abbrev p47 : Lb := [true, true, true, true, false, true]
abbrev p48 : Lb := [false, false, false, false, true, true]
abbrev p49 : Lb := [true, false, false, false, true, true]
abbrev p50 : Lb := [false, true, false, false, true, true]
abbrev p51 : Lb := [true, true, false, false, true, true]
abbrev p52 : Lb := [false, false, true, false, true, true]
abbrev p53 : Lb := [true, false, true, false, true, true]
abbrev p54 : Lb := [false, true, true, false, true, true]
abbrev p55 : Lb := [true, true, true, false, true, true]
abbrev p56 : Lb := [false, false, false, true, true, true]
abbrev p57 : Lb := [true, false, false, true, true, true]
abbrev p58 : Lb := [false, true, false, true, true, true]
abbrev p59 : Lb := [true, true, false, true, true, true]
abbrev p60 : Lb := [false, false, true, true, true, true]
abbrev p61 : Lb := [true, false, true, true, true, true]
abbrev p62 : Lb := [false, true, true, true, true, true]
abbrev p63 : Lb := [true, true, true, true, true, true]
abbrev p64 : Lb := [false, false, false, false, false, false, true]
abbrev p65 : Lb := [true, false, false, false, false, false, true]
abbrev p66 : Lb := [false, true, false, false, false, false, true]
abbrev p67 : Lb := [true, true, false, false, false, false, true]
abbrev p68 : Lb := [false, false, true, false, false, false, true]
abbrev p69 : Lb := [true, false, true, false, false, false, true]
abbrev p70 : Lb := [false, true, true, false, false, false, true]
abbrev p71 : Lb := [true, true, true, false, false, false, true]
abbrev p72 : Lb := [false, false, false, true, false, false, true]
abbrev p73 : Lb := [true, false, false, true, false, false, true]
abbrev p74 : Lb := [false, true, false, true, false, false, true]
abbrev p75 : Lb := [true, true, false, true, false, false, true]
abbrev p76 : Lb := [false, false, true, true, false, false, true]
abbrev p77 : Lb := [true, false, true, true, false, false, true]
abbrev p78 : Lb := [false, true, true, true, false, false, true]
abbrev p79 : Lb := [true, true, true, true, false, false, true]
abbrev p80 : Lb := [false, false, false, false, true, false, true]
abbrev p81 : Lb := [true, false, false, false, true, false, true]
abbrev p82 : Lb := [false, true, false, false, true, false, true]
abbrev p83 : Lb := [true, true, false, false, true, false, true]
abbrev p84 : Lb := [false, false, true, false, true, false, true]
abbrev p85 : Lb := [true, false, true, false, true, false, true]
abbrev p86 : Lb := [false, true, true, false, true, false, true]
abbrev p87 : Lb := [true, true, true, false, true, false, true]
abbrev p88 : Lb := [false, false, false, true, true, false, true]
abbrev p89 : Lb := [true, false, false, true, true, false, true]
abbrev p90 : Lb := [false, true, false, true, true, false, true]
abbrev p91 : Lb := [true, true, false, true, true, false, true]
abbrev p92 : Lb := [false, false, true, true, true, false, true]
abbrev p93 : Lb := [true, false, true, true, true, false, true]
abbrev p94 : Lb := [false, true, true, true, true, false, true]
abbrev p95 : Lb := [true, true, true, true, true, false, true]
abbrev p96 : Lb := [false, false, false, false, false, true, true]
abbrev p97 : Lb := [true, false, false, false, false, true, true]
abbrev p98 : Lb := [false, true, false, false, false, true, true]
abbrev p99 : Lb := [true, true, false, false, false, true, true]
abbrev p100 : Lb := [false, false, true, false, false, true, true]
abbrev p101 : Lb := [true, false, true, false, false, true, true]
abbrev p102 : Lb := [false, true, true, false, false, true, true]
abbrev p103 : Lb := [true, true, true, false, false, true, true]
abbrev p104 : Lb := [false, false, false, true, false, true, true]
abbrev p105 : Lb := [true, false, false, true, false, true, true]
abbrev p106 : Lb := [false, true, false, true, false, true, true]
abbrev p107 : Lb := [true, true, false, true, false, true, true]
abbrev p108 : Lb := [false, false, true, true, false, true, true]
abbrev p109 : Lb := [true, false, true, true, false, true, true]
abbrev p110 : Lb := [false, true, true, true, false, true, true]
abbrev p111 : Lb := [true, true, true, true, false, true, true]
abbrev p112 : Lb := [false, false, false, false, true, true, true]
abbrev p113 : Lb := [true, false, false, false, true, true, true]
abbrev p114 : Lb := [false, true, false, false, true, true, true]
abbrev p115 : Lb := [true, true, false, false, true, true, true]
abbrev p116 : Lb := [false, false, true, false, true, true, true]
abbrev p117 : Lb := [true, false, true, false, true, true, true]
abbrev p118 : Lb := [false, true, true, false, true, true, true]
abbrev p119 : Lb := [true, true, true, false, true, true, true]
abbrev p120 : Lb := [false, false, false, true, true, true, true]
abbrev p121 : Lb := [true, false, false, true, true, true, true]
abbrev p122 : Lb := [false, true, false, true, true, true, true]
abbrev p123 : Lb := [true, true, false, true, true, true, true]
abbrev p124 : Lb := [false, false, true, true, true, true, true]
abbrev p125 : Lb := [true, false, true, true, true, true, true]
abbrev p126 : Lb := [false, true, true, true, true, true, true]
abbrev p127 : Lb := [true, true, true, true, true, true, true]
abbrev p128 : Lb := [false, false, false, false, false, false, false, true]
abbrev p129 : Lb := [true, false, false, false, false, false, false, true]
abbrev p130 : Lb := [false, true, false, false, false, false, false, true]
abbrev p131 : Lb := [true, true, false, false, false, false, false, true]
abbrev p132 : Lb := [false, false, true, false, false, false, false, true]
abbrev p133 : Lb := [true, false, true, false, false, false, false, true]
abbrev p134 : Lb := [false, true, true, false, false, false, false, true]
abbrev p135 : Lb := [true, true, true, false, false, false, false, true]
abbrev p136 : Lb := [false, false, false, true, false, false, false, true]
abbrev p137 : Lb := [true, false, false, true, false, false, false, true]
abbrev p138 : Lb := [false, true, false, true, false, false, false, true]
abbrev p139 : Lb := [true, true, false, true, false, false, false, true]
abbrev p140 : Lb := [false, false, true, true, false, false, false, true]
abbrev p141 : Lb := [true, false, true, true, false, false, false, true]
abbrev p142 : Lb := [false, true, true, true, false, false, false, true]
abbrev p143 : Lb := [true, true, true, true, false, false, false, true]
abbrev p144 : Lb := [false, false, false, false, true, false, false, true]
abbrev p145 : Lb := [true, false, false, false, true, false, false, true]
abbrev p146 : Lb := [false, true, false, false, true, false, false, true]
abbrev p147 : Lb := [true, true, false, false, true, false, false, true]
abbrev p148 : Lb := [false, false, true, false, true, false, false, true]
abbrev p149 : Lb := [true, false, true, false, true, false, false, true]
abbrev p150 : Lb := [false, true, true, false, true, false, false, true]
def ids : List (FuncId × Ext) := [(21, .cloneAny 6), (185, .nop), (186, .cas32), (187, .nop), (188, .mark), (190, .mark), (191, .add32), (287, .clone), (292, .same), (293, .noZero 5), (307, .seq true 9 1 16 [252, 288] []), (352, .seq false 95 2 32 [] [331]), (354, .compare)]
def d3 : DFn := ⟨108, (.seq (.ops [⟨some p2, (.e (.box 24 (.t p0))), none⟩, ⟨some p3, (.e (.box 28 (.t p1))), none⟩, ⟨some p4, (.mov (.c (.bool false))), none⟩])
  (.seq (.seq (.ops [⟨some p15, (.p (.build [.nilPtr, (.nilSlice 0), (.nilSlice 0), .nilMap] [])), none⟩, ⟨some p16, (.e (.box 34 (.t p15))), none⟩, ⟨some p17, (.e (.buildSlice 29 1 2 [.nilPtr, .nilPtr] [(0, (.c .nilPtr)), (1, (.t p16))])), none⟩, ⟨some p18, (.p (.lenSlice (.t p17))), none⟩, ⟨some p19, (.mov (.c (.int .i64 0))), none⟩])
  (.block 0 (.loop (.seq (.ops [⟨some p20, (.p (.bin .lss .none (.t p19) (.t p18))), none⟩])
  (.seq (.cond (.t p20) .skip (.exit 0))
  (.seq (.block 1 (.seq (.ops [⟨some p21, (.p (.indexAddr 1 (.t p17) (.t p19))), none⟩, ⟨some p22, (.r (.load .one (.t p21))), none⟩, ⟨some p6, (.mov (.t p22)), none⟩])
  (.seq (.ops [⟨some p24, (.mov (.t p6)), none⟩, ⟨some p25, (.r (.load (.many 7) (.t p2))), none⟩, ⟨some p26, (.c (.func 5 [(.t p25)])), none⟩, ⟨some p27, (.c (.func 4 [(.t p24), (.t p26)])), none⟩, ⟨some p23, (.mov (.t p27)), none⟩, ⟨some p28, (.p (.extract 0 (.t p23))), none⟩, ⟨some p29, (.p (.extract 1 (.t p23))), none⟩, ⟨some p7, (.e (.alloc 24 [(.int .i64 0), (.str []), (.int .i64 0), (.int .i64 0), (.int .i64 0), (.int .i64 0), (.nilSlice 0)])), none⟩, ⟨none, (.e (.store 7 (.t p7) (.t p28))), none⟩, ⟨some p8, (.mov (.t p29)), none⟩])
  (.seq (.ops [⟨some p31, (.mov (.t p6)), none⟩, ⟨some p32, (.r (.load (.many 7) (.t p2))), none⟩, ⟨some p33, (.c (.func 5 [(.t p32)])), none⟩, ⟨some p34, (.c (.func 6 [(.t p31), (.t p33)])), none⟩, ⟨some p30, (.mov (.t p34)), none⟩, ⟨some p35, (.p (.extract 0 (.t p30))), none⟩, ⟨some p36, (.p (.extract 1 (.t p30))), none⟩, ⟨some p9, (.e (.alloc 24 [(.int .i64 0), (.str []), (.int .i64 0), (.int .i64 0), (.int .i64 0), (.int .i64 0), (.nilSlice 0)])), none⟩, ⟨none, (.e (.store 7 (.t p9) (.t p35))), none⟩, ⟨some p10, (.mov (.t p36)), none⟩])
  (.seq (.seq (.ops [⟨some p37, (.mov (.t p8)), none⟩, ⟨some p38, (.p (.bin .neq .none (.t p37) (.c (.int .i64 8)))), none⟩, ⟨some p39, (.mov (.t p38)), none⟩, ⟨some p40, (.mov (.t p10)), some (p39, false)⟩, ⟨some p41, (.p (.bin .neq .none (.t p40) (.c (.int .i64 8)))), some (p39, false)⟩, ⟨some p42, (.p (.pick (.t p39) (.c (.bool true)) (.t p41))), none⟩, ⟨some p43, (.mov (.t p42)), none⟩, ⟨some p44, (.r (.load (.many 7) (.t p7))), some (p43, false)⟩, ⟨some p45, (.p (.build [(.int .i64 0), (.str []), (.int .i64 0), (.int .i64 0), (.int .i64 0), (.int .i64 0), (.nilSlice 0)] [])), some (p43, false)⟩, ⟨some p46, (.c (.func 7 [(.t p44), (.t p45)])), some (p43, false)⟩, ⟨some p47, (.p (.un .not (.t p46))), some (p43, false)⟩, ⟨some p48, (.p (.pick (.t p43) (.c (.bool true)) (.t p47))), none⟩, ⟨some p49, (.mov (.t p48)), none⟩, ⟨some p50, (.r (.load (.many 7) (.t p9))), some (p49, false)⟩, ⟨some p51, (.p (.build [(.int .i64 0), (.str []), (.int .i64 0), (.int .i64 0), (.int .i64 0), (.int .i64 0), (.nilSlice 0)] [])), some (p49, false)⟩, ⟨some p52, (.c (.func 7 [(.t p50), (.t p51)])), some (p49, false)⟩, ⟨some p53, (.p (.un .not (.t p52))), some (p49, false)⟩, ⟨some p54, (.p (.pick (.t p49) (.c (.bool true)) (.t p53))), none⟩, ⟨some p55, (.mov (.t p54)), none⟩, ⟨some p56, (.mov (.t p6)), some (p55, false)⟩, ⟨some p57, (.c (.func 8 [(.t p56)])), some (p55, false)⟩, ⟨some p58, (.p (.bin .neq .none (.t p57) (.c (.int .i64 8)))), some (p55, false)⟩, ⟨some p59, (.p (.pick (.t p55) (.c (.bool true)) (.t p58))), none⟩])
  (.cond (.t p59) (.seq (.ops [⟨some p4, (.mov (.c (.bool false))), none⟩])
  .ret) .skip))
  (.seq (.draw [] [(⟨some p60, (.mov (.t p6)), none⟩, 0, 0), (⟨some p61, (.c (.func 9 [(.t p60)])), none⟩, 0, 1), (⟨some p62, (.mov (.t p6)), none⟩, 0, 1), (⟨some p63, (.p (.fieldAddr 1 (.t p2))), none⟩, 0, 1), (⟨some p64, (.r (.load .one (.t p63))), none⟩, 0, 1), (⟨some p65, (.c (.func 10 [(.t p62), (.t p64)])), none⟩, 1, 2), (⟨some p66, (.p (.bin .add .none (.t p61) (.t p65))), none⟩, 2, 2), (⟨some p67, (.p (.bin .neq .none (.t p66) (.c (.int .i64 0)))), none⟩, 2, 2), (⟨some p68, (.mov (.t p67)), none⟩, 2, 2), (⟨some p69, (.mov (.t p6)), some (p68, false)⟩, 2, 2), (⟨some p70, (.c (.func 11 [(.t p69)])), some (p68, false)⟩, 2, 3), (⟨some p71, (.p (.lenSlice (.t p70))), some (p68, false)⟩, 3, 4), (⟨some p72, (.mov (.t p6)), some (p68, false)⟩, 2, 3), (⟨some p73, (.c (.func 12 [(.t p72), (.c (.int .i64 0)), (.c (.int .i64 9))])), some (p68, false)⟩, 3, 4), (⟨some p74, (.p (.lenSlice (.t p73))), some (p68, false)⟩, 4, 4), (⟨some p75, (.p (.bin .add .none (.t p71) (.t p74))), some (p68, false)⟩, 4, 4), (⟨some p76, (.p (.bin .gtr .none (.t p75) (.c (.int .i64 0)))), some (p68, false)⟩, 4, 4), (⟨some p77, (.p (.pick (.t p68) (.c (.bool true)) (.t p76))), none⟩, 4, 4), (⟨some p78, (.mov (.t p77)), none⟩, 4, 4), (⟨some p79, (.mov (.t p6)), some (p78, false)⟩, 4, 4), (⟨some p80, (.r (.load (.many 4) (.t p3))), some (p78, false)⟩, 4, 4), (⟨some p81, (.c (.func 14 [(.t p79), (.c (.nilSlice 0)), (.c (.int .i64 0)), (.t p80)])), some (p78, false)⟩, 4, 5), (⟨some p82, (.p (.build [(.int .i64 0), (.nilSlice 0), (.nilSlice 0)] [(0, 1, (.c (.int .i64 500)))])), some (p78, false)⟩, 4, 5), (⟨some p83, (.c (.func 13 [(.t p81), (.t p82)])), some (p78, false)⟩, 5, 6), (⟨some p84, (.p (.un .not (.t p83))), some (p78, false)⟩, 6, 6), (⟨some p85, (.p (.pick (.t p78) (.c (.bool true)) (.t p84))), none⟩, 6, 6)])
  (.cond (.t p85) (.seq (.ops [⟨some p4, (.mov (.c (.bool false))), none⟩])
  .ret) .skip)))))))
  (.ops [⟨some p86, (.p (.bin .add .none (.t p19) (.c (.int .i64 1)))), none⟩, ⟨some p19, (.mov (.t p86)), none⟩])))))))
  (.seq (.seq (.ops [⟨some p87, (.p (.build [(.int .i64 0), .nilMap, .nilMap, (.nilSlice 0), .nilMap] [])), none⟩, ⟨some p88, (.e (.box 55 (.t p87))), none⟩, ⟨some p89, (.e (.buildSlice 50 1 2 [.nilPtr, .nilPtr] [(0, (.c .nilPtr)), (1, (.t p88))])), none⟩, ⟨some p90, (.p (.lenSlice (.t p89))), none⟩, ⟨some p91, (.mov (.c (.int .i64 0))), none⟩])
  (.block 2 (.loop (.seq (.ops [⟨some p92, (.p (.bin .lss .none (.t p91) (.t p90))), none⟩])
  (.seq (.cond (.t p92) .skip (.exit 2))
  (.seq (.block 3 (.seq (.ops [⟨some p93, (.p (.indexAddr 1 (.t p89) (.t p91))), none⟩, ⟨some p94, (.r (.load .one (.t p93))), none⟩, ⟨some p12, (.mov (.t p94)), none⟩])
  (.seq (.ops [⟨some p96, (.mov (.t p12)), none⟩, ⟨some p97, (.c (.func 15 [(.t p96)])), none⟩, ⟨some p95, (.mov (.t p97)), none⟩, ⟨some p98, (.p (.extract 0 (.t p95))), none⟩, ⟨some p99, (.p (.extract 1 (.t p95))), none⟩, ⟨some p13, (.mov (.t p98)), none⟩, ⟨some p14, (.mov (.t p99)), none⟩])
  (.seq (.ops [⟨some p100, (.mov (.t p13)), none⟩, ⟨some p101, (.p (.bin .neq .ptr (.t p100) (.c .nilPtr))), none⟩, ⟨some p102, (.mov (.t p101)), none⟩, ⟨some p103, (.mov (.t p14)), some (p102, false)⟩, ⟨some p104, (.p (.bin .neq .none (.t p103) (.c (.int .i64 8)))), some (p102, false)⟩, ⟨some p105, (.p (.pick (.t p102) (.c (.bool true)) (.t p104))), none⟩])
  (.cond (.t p105) (.seq (.ops [⟨some p4, (.mov (.c (.bool false))), none⟩])
  .ret) .skip)))))
  (.ops [⟨some p106, (.p (.bin .add .none (.t p91) (.c (.int .i64 1)))), none⟩, ⟨some p91, (.mov (.t p106)), none⟩])))))))
  (.seq (.ops [⟨some p107, (.c (.func 16 [])), none⟩, ⟨some p4, (.mov (.t p107)), none⟩])
  .ret)))), [(.tmp p4)]⟩
def d4 : DFn := ⟨90, (.seq (.ops [⟨some p3, (.e (.box 24 (.t p1))), none⟩, ⟨some p4, (.e (.alloc 24 [(.int .i64 0), (.str []), (.int .i64 0), (.int .i64 0), (.int .i64 0), (.int .i64 0), (.nilSlice 0)])), none⟩, ⟨some p5, (.mov (.c (.int .i64 0))), none⟩])
  (.seq (.ops [⟨some p11, (.p (.build [(.int .i64 0), (.str []), (.int .i64 0), (.int .i64 0), (.int .i64 0), (.int .i64 0), (.nilSlice 0)] [])), none⟩, ⟨some p6, (.e (.alloc 24 [(.int .i64 0), (.str []), (.int .i64 0), (.int .i64 0), (.int .i64 0), (.int .i64 0), (.nilSlice 0)])), none⟩, ⟨none, (.e (.store 7 (.t p6) (.t p11))), none⟩])
  (.seq (.block 0 (.seq (.ops [⟨some p13, (.mov (.t p0)), none⟩, ⟨some p14, (.c (.func 17 [(.t p13)])), none⟩, ⟨some p15, (.p (.un .not (.t p14))), none⟩, ⟨some p12, (.mov (.t p15)), none⟩])
  (.cond (.t p12) (.seq (.ops [⟨some p16, (.r (.load (.many 7) (.t p6))), none⟩, ⟨none, (.e (.store 7 (.t p4) (.t p16))), none⟩, ⟨some p5, (.mov (.c (.int .i64 8))), none⟩])
  .ret) (.seq (.ops [⟨some p18, (.p (.fieldAddr 0 (.t p3))), none⟩, ⟨some p19, (.r (.load .one (.t p18))), none⟩, ⟨some p20, (.p (.bin .neq .none (.t p19) (.c (.int .i64 1)))), none⟩, ⟨some p21, (.mov (.t p20)), none⟩, ⟨some p22, (.r (.load (.many 7) (.t p3))), some (p21, false)⟩, ⟨some p23, (.c (.func 18 [(.t p22)])), some (p21, false)⟩, ⟨some p24, (.p (.bin .neq .none (.t p23) (.c (.int .i64 0)))), some (p21, false)⟩, ⟨some p25, (.p (.pick (.t p21) (.c (.bool true)) (.t p24))), none⟩, ⟨some p17, (.mov (.t p25)), none⟩])
  (.cond (.t p17) (.seq (.ops [⟨some p26, (.r (.load (.many 7) (.t p6))), none⟩, ⟨none, (.e (.store 7 (.t p4) (.t p26))), none⟩, ⟨some p5, (.mov (.c (.int .i64 130))), none⟩])
  .ret) (.seq (.draw [] [(⟨some p28, (.p (.fieldAddr 6 (.t p3))), none⟩, 0, 0), (⟨some p29, (.r (.load .one (.t p28))), none⟩, 0, 0), (⟨some p30, (.p (.indexAddr 6 (.t p29) (.c (.int .i64 0)))), none⟩, 0, 0), (⟨some p31, (.p (.fieldAddr 1 (.t p30))), none⟩, 0, 0), (⟨some p32, (.r (.load .one (.t p31))), none⟩, 0, 0), (⟨some p33, (.p (.bin .sub .none (.t p32) (.c (.int .i64 1)))), none⟩, 0, 0), (⟨some p34, (.mov (.t p0)), none⟩, 0, 0), (⟨some p35, (.p (.nilCheck (.t p34))), none⟩, 0, 0), (⟨some p36, (.p (.fieldAddr 3 (.t p35))), none⟩, 0, 0), (⟨some p37, (.r (.load .one (.t p36))), none⟩, 0, 0), (⟨some p38, (.p (.fieldAddr 1 (.t p3))), none⟩, 0, 0), (⟨some p39, (.r (.load .one (.t p38))), none⟩, 0, 0), (⟨some p40, (.r (.lookup .str (.int .i64 0) false (.t p37) (.t p39))), none⟩, 0, 0), (⟨some p41, (.p (.bin .gtr .none (.t p33) (.t p40))), none⟩, 0, 0), (⟨some p27, (.mov (.t p41)), none⟩, 0, 0)])
  (.cond (.t p27) (.seq (.ops [⟨some p42, (.r (.load (.many 7) (.t p6))), none⟩, ⟨none, (.e (.store 7 (.t p4) (.t p42))), none⟩, ⟨some p5, (.mov (.c (.int .i64 140))), none⟩])
  .ret) .skip)))))))
  (.seq (.seq (.ops [⟨some p43, (.p (.fieldAddr 6 (.t p3))), none⟩, ⟨some p44, (.r (.load .one (.t p43))), none⟩, ⟨some p45, (.p (.lenSlice (.t p44))), none⟩, ⟨some p46, (.mov (.c (.int .i64 0))), none⟩])
  (.block 1 (.loop (.seq (.ops [⟨some p47, (.p (.bin .lss .none (.t p46) (.t p45))), none⟩])
  (.seq (.cond (.t p47) .skip (.exit 1))
  (.seq (.block 2 (.seq (.ops [⟨some p48, (.p (.indexAddr 6 (.t p44) (.t p46))), none⟩, ⟨some p49, (.r (.load (.many 6) (.t p48))), none⟩, ⟨some p8, (.e (.alloc 65 [(.str []), (.int .i64 0), (.int .i64 0), (.str []), (.str []), (.str [])])), none⟩, ⟨none, (.e (.store 6 (.t p8) (.t p49))), none⟩])
  (.seq (.seq (.draw [] [(⟨some p50, (.p (.fieldAddr 1 (.t p8))), none⟩, 0, 0), (⟨some p51, (.r (.load .one (.t p50))), none⟩, 0, 0), (⟨some p52, (.mov (.t p0)), none⟩, 0, 0), (⟨some p53, (.p (.nilCheck (.t p52))), none⟩, 0, 0), (⟨some p54, (.p (.fieldAddr 3 (.t p53))), none⟩, 0, 0), (⟨some p55, (.r (.load .one (.t p54))), none⟩, 0, 0), (⟨some p56, (.p (.fieldAddr 1 (.t p3))), none⟩, 0, 0), (⟨some p57, (.r (.load .one (.t p56))), none⟩, 0, 0), (⟨some p58, (.r (.lookup .str (.int .i64 0) false (.t p55) (.t p57))), none⟩, 0, 0), (⟨some p59, (.p (.bin .leq .none (.t p51) (.t p58))), none⟩, 0, 0)])
  (.cond (.t p59) (.exit 2) .skip))
  (.seq (.ops [⟨some p60, (.mov (.t p0)), none⟩, ⟨some p61, (.r (.load (.many 6) (.t p8))), none⟩, ⟨some p62, (.c (.func 19 [(.t p60), (.t p61)])), none⟩, ⟨some p9, (.mov (.t p62)), none⟩])
  (.seq (.ops [⟨some p63, (.mov (.t p9)), none⟩, ⟨some p64, (.p (.bin .neq .none (.t p63) (.c (.int .i64 0)))), none⟩])
  (.cond (.t p64) (.seq (.ops [⟨some p65, (.r (.load (.many 7) (.t p6))), none⟩, ⟨some p66, (.mov (.t p9)), none⟩, ⟨none, (.e (.store 7 (.t p4) (.t p65))), none⟩, ⟨some p5, (.mov (.t p66)), none⟩])
  .ret) .skip))))))
  (.ops [⟨some p67, (.p (.bin .add .none (.t p46) (.c (.int .i64 1)))), none⟩, ⟨some p46, (.mov (.t p67)), none⟩])))))))
  (.seq (.seq (.ops [⟨some p68, (.mov (.t p0)), none⟩, ⟨some p69, (.p (.nilCheck (.t p68))), none⟩, ⟨some p70, (.p (.fieldAddr 0 (.t p69))), none⟩, ⟨some p71, (.r (.load .one (.t p70))), none⟩, ⟨some p72, (.c (.func 20 [(.t p71)])), none⟩, ⟨some p10, (.mov (.t p72)), none⟩])
  (.seq (.ops [⟨some p73, (.mov (.t p10)), none⟩, ⟨some p74, (.p (.bin .neq .none (.t p73) (.c (.int .i64 0)))), none⟩])
  (.cond (.t p74) (.seq (.ops [⟨some p75, (.r (.load (.many 7) (.t p6))), none⟩, ⟨some p76, (.mov (.t p10)), none⟩, ⟨none, (.e (.store 7 (.t p4) (.t p75))), none⟩, ⟨some p5, (.mov (.t p76)), none⟩])
  .ret) .skip)))
  (.seq (.draw [] [(⟨some p77, (.mov (.t p0)), none⟩, 0, 0), (⟨some p78, (.p (.nilCheck (.t p77))), none⟩, 0, 0), (⟨some p79, (.p (.fieldAddr 3 (.t p78))), none⟩, 0, 0), (⟨some p80, (.r (.load .one (.t p79))), none⟩, 0, 0), (⟨some p81, (.p (.fieldAddr 1 (.t p3))), none⟩, 0, 0), (⟨some p82, (.r (.load .one (.t p81))), none⟩, 0, 0), (⟨some p83, (.r (.lookup .str (.int .i64 0) false (.t p80) (.t p82))), none⟩, 0, 0), (⟨some p84, (.mov (.t p0)), none⟩, 0, 0), (⟨some p85, (.p (.nilCheck (.t p84))), none⟩, 0, 0), (⟨some p86, (.p (.fieldAddr 1 (.t p85))), none⟩, 0, 0), (⟨some p87, (.r (.load .one (.t p86))), none⟩, 0, 0), (⟨some p88, (.p (.lenSlice (.t p87))), none⟩, 0, 0), (⟨some p89, (.p (.build [(.int .i64 0), (.str []), (.int .i64 0), (.int .i64 0), (.int .i64 0), (.int .i64 0), (.nilSlice 0)] [(0, 1, (.c (.int .i64 2))), (4, 1, (.t p83)), (5, 1, (.t p88))])), none⟩, 0, 0), (⟨none, (.e (.store 7 (.t p4) (.t p89))), none⟩, 0, 1), (⟨some p5, (.mov (.c (.int .i64 0))), none⟩, 1, 1)])
  .ret)))))), [(.cell p4 (.many 7)), (.tmp p5)]⟩
def d5 : DFn := ⟨8, (.seq (.ops [⟨some p1, (.e (.box 24 (.t p0))), none⟩, ⟨some p2, (.e (.alloc 24 [(.int .i64 0), (.str []), (.int .i64 0), (.int .i64 0), (.int .i64 0), (.int .i64 0), (.nilSlice 0)])), none⟩])
  (.seq (.ops [⟨some p3, (.p (.fieldAddr 6 (.t p1))), none⟩, ⟨some p4, (.r (.load .one (.t p3))), none⟩, ⟨some p5, (.c (.func 21 [(.t p4)])), none⟩, ⟨some p6, (.p (.fieldAddr 6 (.t p1))), none⟩, ⟨none, (.e (.store 1 (.t p6) (.t p5))), none⟩])
  (.seq (.ops [⟨some p7, (.r (.load (.many 7) (.t p1))), none⟩, ⟨none, (.e (.store 7 (.t p2) (.t p7))), none⟩])
  .ret))), [(.cell p2 (.many 7))]⟩
def d6 : DFn := ⟨87, (.seq (.ops [⟨some p3, (.e (.box 24 (.t p1))), none⟩, ⟨some p4, (.e (.alloc 24 [(.int .i64 0), (.str []), (.int .i64 0), (.int .i64 0), (.int .i64 0), (.int .i64 0), (.nilSlice 0)])), none⟩, ⟨some p5, (.mov (.c (.int .i64 0))), none⟩])
  (.seq (.ops [⟨some p11, (.p (.build [(.int .i64 0), (.str []), (.int .i64 0), (.int .i64 0), (.int .i64 0), (.int .i64 0), (.nilSlice 0)] [])), none⟩, ⟨some p6, (.e (.alloc 24 [(.int .i64 0), (.str []), (.int .i64 0), (.int .i64 0), (.int .i64 0), (.int .i64 0), (.nilSlice 0)])), none⟩, ⟨none, (.e (.store 7 (.t p6) (.t p11))), none⟩])
  (.seq (.block 0 (.seq (.ops [⟨some p13, (.mov (.t p0)), none⟩, ⟨some p14, (.c (.func 17 [(.t p13)])), none⟩, ⟨some p15, (.p (.un .not (.t p14))), none⟩, ⟨some p12, (.mov (.t p15)), none⟩])
  (.cond (.t p12) (.seq (.ops [⟨some p16, (.r (.load (.many 7) (.t p6))), none⟩, ⟨none, (.e (.store 7 (.t p4) (.t p16))), none⟩, ⟨some p5, (.mov (.c (.int .i64 8))), none⟩])
  .ret) (.seq (.ops [⟨some p18, (.p (.fieldAddr 0 (.t p3))), none⟩, ⟨some p19, (.r (.load .one (.t p18))), none⟩, ⟨some p20, (.p (.bin .neq .none (.t p19) (.c (.int .i64 3)))), none⟩, ⟨some p21, (.mov (.t p20)), none⟩, ⟨some p22, (.r (.load (.many 7) (.t p3))), some (p21, false)⟩, ⟨some p23, (.c (.func 18 [(.t p22)])), some (p21, false)⟩, ⟨some p24, (.p (.bin .neq .none (.t p23) (.c (.int .i64 0)))), some (p21, false)⟩, ⟨some p25, (.p (.pick (.t p21) (.c (.bool true)) (.t p24))), none⟩, ⟨some p17, (.mov (.t p25)), none⟩])
  (.cond (.t p17) (.seq (.ops [⟨some p26, (.r (.load (.many 7) (.t p6))), none⟩, ⟨none, (.e (.store 7 (.t p4) (.t p26))), none⟩, ⟨some p5, (.mov (.c (.int .i64 130))), none⟩])
  .ret) (.seq (.draw [] [(⟨some p28, (.p (.fieldAddr 3 (.t p3))), none⟩, 0, 0), (⟨some p29, (.r (.load .one (.t p28))), none⟩, 0, 0), (⟨some p30, (.mov (.t p0)), none⟩, 0, 0), (⟨some p31, (.p (.nilCheck (.t p30))), none⟩, 0, 0), (⟨some p32, (.p (.fieldAddr 1 (.t p31))), none⟩, 0, 0), (⟨some p33, (.r (.load .one (.t p32))), none⟩, 0, 0), (⟨some p34, (.p (.lenSlice (.t p33))), none⟩, 0, 0), (⟨some p35, (.p (.bin .gtr .none (.t p29) (.t p34))), none⟩, 0, 0), (⟨some p27, (.mov (.t p35)), none⟩, 0, 0)])
  (.cond (.t p27) (.seq (.ops [⟨some p36, (.r (.load (.many 7) (.t p6))), none⟩, ⟨none, (.e (.store 7 (.t p4) (.t p36))), none⟩, ⟨some p5, (.mov (.c (.int .i64 140))), none⟩])
  .ret) .skip)))))))
  (.seq (.seq (.ops [⟨some p37, (.mov (.t p0)), none⟩, ⟨some p38, (.p (.nilCheck (.t p37))), none⟩, ⟨some p39, (.p (.fieldAddr 0 (.t p38))), none⟩, ⟨some p40, (.r (.load .one (.t p39))), none⟩, ⟨some p41, (.c (.func 20 [(.t p40)])), none⟩, ⟨some p7, (.mov (.t p41)), none⟩])
  (.seq (.ops [⟨some p42, (.mov (.t p7)), none⟩, ⟨some p43, (.p (.bin .neq .none (.t p42) (.c (.int .i64 0)))), none⟩])
  (.cond (.t p43) (.seq (.ops [⟨some p44, (.r (.load (.many 7) (.t p6))), none⟩, ⟨some p45, (.mov (.t p7)), none⟩, ⟨none, (.e (.store 7 (.t p4) (.t p44))), none⟩, ⟨some p5, (.mov (.t p45)), none⟩])
  .ret) .skip)))
  (.seq (.draw [(p87, 24, [(.int .i64 0), (.str []), (.int .i64 0), (.int .i64 0), (.int .i64 0), (.int .i64 0), (.nilSlice 0)])] [(⟨some p46, (.p (.fieldAddr 3 (.t p3))), none⟩, 0, 1), (⟨some p47, (.r (.load .one (.t p46))), none⟩, 0, 1), (⟨some p48, (.mov (.t p0)), none⟩, 0, 1), (⟨some p49, (.p (.nilCheck (.t p48))), none⟩, 0, 1), (⟨some p50, (.p (.fieldAddr 1 (.t p49))), none⟩, 0, 1), (⟨some p51, (.r (.load .one (.t p50))), none⟩, 0, 1), (⟨some p52, (.p (.lenSlice (.t p51))), none⟩, 0, 1), (⟨some p53, (.mov (.t p0)), none⟩, 0, 0), (⟨some p54, (.p (.fieldAddr 3 (.t p3))), none⟩, 0, 0), (⟨some p55, (.r (.load .one (.t p54))), none⟩, 0, 0), (⟨some p56, (.c (.func 12 [(.t p53), (.t p55), (.c (.int .i64 8))])), none⟩, 0, 1), (⟨some p57, (.p (.build [(.int .i64 0), (.str []), (.int .i64 0), (.int .i64 0), (.int .i64 0), (.int .i64 0), (.nilSlice 0)] [(0, 1, (.c (.int .i64 4))), (2, 1, (.t p47)), (5, 1, (.t p52)), (6, 1, (.t p56))])), none⟩, 1, 1), (⟨some p8, (.r (.fresh 24 [(.int .i64 0), (.str []), (.int .i64 0), (.int .i64 0), (.int .i64 0), (.int .i64 0), (.nilSlice 0)] (.t p87))), none⟩, 0, 1), (⟨none, (.e (.store 7 (.t p8) (.t p57))), none⟩, 1, 2)])
  (.seq (.ops [⟨some p58, (.p (.fieldAddr 2 (.t p8))), none⟩, ⟨some p59, (.r (.load .one (.t p58))), none⟩, ⟨some p60, (.p (.fieldAddr 6 (.t p8))), none⟩, ⟨some p61, (.r (.load .one (.t p60))), none⟩, ⟨some p62, (.p (.lenSlice (.t p61))), none⟩, ⟨some p63, (.p (.bin .add .none (.t p59) (.t p62))), none⟩, ⟨some p64, (.p (.fieldAddr 3 (.t p8))), none⟩, ⟨none, (.e (.store 1 (.t p64) (.t p63))), none⟩])
  (.seq (.seq (.draw [] [(⟨some p65, (.mov (.t p0)), none⟩, 0, 0), (⟨some p66, (.p (.nilCheck (.t p65))), none⟩, 0, 0), (⟨some p67, (.p (.fieldAddr 1 (.t p66))), none⟩, 0, 0), (⟨some p68, (.r (.load .one (.t p67))), none⟩, 0, 0), (⟨some p69, (.p (.fieldAddr 3 (.t p8))), none⟩, 0, 0), (⟨some p70, (.r (.load .one (.t p69))), none⟩, 0, 0), (⟨some p71, (.p (.slice 6 (.t p68) none (some (.t p70)) none)), none⟩, 0, 0), (⟨some p72, (.p (.lenSlice (.t p71))), none⟩, 0, 0), (⟨some p73, (.mov (.c (.int .i64 0))), none⟩, 0, 0)])
  (.block 1 (.loop (.seq (.ops [⟨some p74, (.p (.bin .lss .none (.t p73) (.t p72))), none⟩])
  (.seq (.cond (.t p74) .skip (.exit 1))
  (.seq (.block 2 (.seq (.ops [⟨some p75, (.p (.indexAddr 6 (.t p71) (.t p73))), none⟩, ⟨some p76, (.r (.load (.many 6) (.t p75))), none⟩, ⟨some p10, (.e (.alloc 65 [(.str []), (.int .i64 0), (.int .i64 0), (.str []), (.str []), (.str [])])), none⟩, ⟨none, (.e (.store 6 (.t p10) (.t p76))), none⟩])
  (.seq (.ops [⟨some p77, (.p (.fieldAddr 0 (.t p10))), none⟩, ⟨some p78, (.r (.load .one (.t p77))), none⟩, ⟨some p79, (.p (.fieldAddr 1 (.t p3))), none⟩, ⟨some p80, (.r (.load .one (.t p79))), none⟩, ⟨some p81, (.p (.bin .eql .none (.t p78) (.t p80))), none⟩])
  (.cond (.t p81) (.ops [⟨some p82, (.p (.fieldAddr 1 (.t p10))), none⟩, ⟨some p83, (.r (.load .one (.t p82))), none⟩, ⟨some p84, (.p (.fieldAddr 4 (.t p8))), none⟩, ⟨none, (.e (.store 1 (.t p84) (.t p83))), none⟩]) .skip))))
  (.ops [⟨some p85, (.p (.bin .add .none (.t p73) (.c (.int .i64 1)))), none⟩, ⟨some p73, (.mov (.t p85)), none⟩])))))))
  (.seq (.ops [⟨some p86, (.r (.load (.many 7) (.t p8))), none⟩, ⟨none, (.e (.store 7 (.t p4) (.t p86))), none⟩, ⟨some p5, (.mov (.c (.int .i64 0))), none⟩])
  .ret)))))))), [(.cell p4 (.many 7)), (.tmp p5)]⟩
def d7 : DFn := ⟨73, (.seq (.ops [⟨some p2, (.e (.box 24 (.t p0))), none⟩, ⟨some p3, (.e (.box 24 (.t p1))), none⟩, ⟨some p4, (.mov (.c (.bool false))), none⟩])
  (.seq (.seq (.ops [⟨some p6, (.p (.fieldAddr 0 (.t p2))), none⟩, ⟨some p7, (.r (.load .one (.t p6))), none⟩, ⟨some p8, (.p (.fieldAddr 0 (.t p3))), none⟩, ⟨some p9, (.r (.load .one (.t p8))), none⟩, ⟨some p10, (.p (.bin .neq .none (.t p7) (.t p9))), none⟩, ⟨some p11, (.mov (.t p10)), none⟩, ⟨some p12, (.p (.fieldAddr 1 (.t p2))), some (p11, false)⟩, ⟨some p13, (.r (.load .one (.t p12))), some (p11, false)⟩, ⟨some p14, (.p (.fieldAddr 1 (.t p3))), some (p11, false)⟩, ⟨some p15, (.r (.load .one (.t p14))), some (p11, false)⟩, ⟨some p16, (.p (.bin .neq .none (.t p13) (.t p15))), some (p11, false)⟩, ⟨some p17, (.p (.pick (.t p11) (.c (.bool true)) (.t p16))), none⟩, ⟨some p18, (.mov (.t p17)), none⟩, ⟨some p19, (.p (.fieldAddr 2 (.t p2))), some (p18, false)⟩, ⟨some p20, (.r (.load .one (.t p19))), some (p18, false)⟩, ⟨some p21, (.p (.fieldAddr 2 (.t p3))), some (p18, false)⟩, ⟨some p22, (.r (.load .one (.t p21))), some (p18, false)⟩, ⟨some p23, (.p (.bin .neq .none (.t p20) (.t p22))), some (p18, false)⟩, ⟨some p24, (.p (.pick (.t p18) (.c (.bool true)) (.t p23))), none⟩, ⟨some p25, (.mov (.t p24)), none⟩, ⟨some p26, (.p (.fieldAddr 3 (.t p2))), some (p25, false)⟩, ⟨some p27, (.r (.load .one (.t p26))), some (p25, false)⟩, ⟨some p28, (.p (.fieldAddr 3 (.t p3))), some (p25, false)⟩, ⟨some p29, (.r (.load .one (.t p28))), some (p25, false)⟩, ⟨some p30, (.p (.bin .neq .none (.t p27) (.t p29))), some (p25, false)⟩, ⟨some p31, (.p (.pick (.t p25) (.c (.bool true)) (.t p30))), none⟩, ⟨some p32, (.mov (.t p31)), none⟩, ⟨some p33, (.p (.fieldAddr 4 (.t p2))), some (p32, false)⟩, ⟨some p34, (.r (.load .one (.t p33))), some (p32, false)⟩, ⟨some p35, (.p (.fieldAddr 4 (.t p3))), some (p32, false)⟩, ⟨some p36, (.r (.load .one (.t p35))), some (p32, false)⟩, ⟨some p37, (.p (.bin .neq .none (.t p34) (.t p36))), some (p32, false)⟩, ⟨some p38, (.p (.pick (.t p32) (.c (.bool true)) (.t p37))), none⟩, ⟨some p39, (.mov (.t p38)), none⟩, ⟨some p40, (.p (.fieldAddr 5 (.t p2))), some (p39, false)⟩, ⟨some p41, (.r (.load .one (.t p40))), some (p39, false)⟩, ⟨some p42, (.p (.fieldAddr 5 (.t p3))), some (p39, false)⟩, ⟨some p43, (.r (.load .one (.t p42))), some (p39, false)⟩, ⟨some p44, (.p (.bin .neq .none (.t p41) (.t p43))), some (p39, false)⟩, ⟨some p45, (.p (.pick (.t p39) (.c (.bool true)) (.t p44))), none⟩, ⟨some p46, (.mov (.t p45)), none⟩, ⟨some p47, (.p (.fieldAddr 6 (.t p2))), some (p46, false)⟩, ⟨some p48, (.r (.load .one (.t p47))), some (p46, false)⟩, ⟨some p49, (.p (.lenSlice (.t p48))), some (p46, false)⟩, ⟨some p50, (.p (.fieldAddr 6 (.t p3))), some (p46, false)⟩, ⟨some p51, (.r (.load .one (.t p50))), some (p46, false)⟩, ⟨some p52, (.p (.lenSlice (.t p51))), some (p46, false)⟩, ⟨some p53, (.p (.bin .neq .none (.t p49) (.t p52))), some (p46, false)⟩, ⟨some p54, (.p (.pick (.t p46) (.c (.bool true)) (.t p53))), none⟩])
  (.cond (.t p54) (.seq (.ops [⟨some p4, (.mov (.c (.bool false))), none⟩])
  .ret) .skip))
  (.seq (.seq (.ops [⟨some p55, (.p (.fieldAddr 6 (.t p2))), none⟩, ⟨some p56, (.r (.load .one (.t p55))), none⟩, ⟨some p57, (.p (.lenSlice (.t p56))), none⟩, ⟨some p58, (.mov (.c (.int .i64 0))), none⟩])
  (.block 0 (.loop (.seq (.ops [⟨some p59, (.p (.bin .lss .none (.t p58) (.t p57))), none⟩])
  (.seq (.cond (.t p59) .skip (.exit 0))
  (.seq (.block 1 (.seq (.ops [⟨some p60, (.mov (.t p58)), none⟩, ⟨some p5, (.mov (.t p60)), none⟩])
  (.seq (.draw [] [(⟨some p61, (.p (.fieldAddr 6 (.t p2))), none⟩, 0, 0), (⟨some p62, (.r (.load .one (.t p61))), none⟩, 0, 0), (⟨some p63, (.mov (.t p5)), none⟩, 0, 0), (⟨some p64, (.p (.indexAddr 6 (.t p62) (.t p63))), none⟩, 0, 0), (⟨some p65, (.r (.load (.many 6) (.t p64))), none⟩, 0, 0), (⟨some p66, (.p (.fieldAddr 6 (.t p3))), none⟩, 0, 0), (⟨some p67, (.r (.load .one (.t p66))), none⟩, 0, 0), (⟨some p68, (.mov (.t p5)), none⟩, 0, 0), (⟨some p69, (.p (.indexAddr 6 (.t p67) (.t p68))), none⟩, 0, 0), (⟨some p70, (.r (.load (.many 6) (.t p69))), none⟩, 0, 0), (⟨some p71, (.p (.bin .neq .none (.t p65) (.t p70))), none⟩, 0, 0)])
  (.cond (.t p71) (.seq (.ops [⟨some p4, (.mov (.c (.bool false))), none⟩])
  .ret) .skip))))
  (.ops [⟨some p72, (.p (.bin .add .none (.t p58) (.c (.int .i64 1)))), none⟩, ⟨some p58, (.mov (.t p72)), none⟩])))))))
  (.seq (.ops [⟨some p4, (.mov (.c (.bool true))), none⟩])
  .ret)))), [(.tmp p4)]⟩
def d8 : DFn := ⟨11, (.seq (.ops [⟨some p2, (.mov (.c (.int .i64 0))), none⟩])
  (.seq (.seq (.ops [⟨some p3, (.mov (.t p0)), none⟩, ⟨some p4, (.c (.func 17 [(.t p3)])), none⟩, ⟨some p5, (.p (.un .not (.t p4))), none⟩])
  (.cond (.t p5) (.seq (.ops [⟨some p2, (.mov (.c (.int .i64 8))), none⟩])
  .ret) .skip))
  (.seq (.ops [⟨some p6, (.mov (.t p0)), none⟩, ⟨some p7, (.p (.nilCheck (.t p6))), none⟩, ⟨some p8, (.p (.fieldAddr 0 (.t p7))), none⟩, ⟨some p9, (.r (.load .one (.t p8))), none⟩, ⟨some p10, (.c (.func 22 [(.t p9)])), none⟩, ⟨some p2, (.mov (.t p10)), none⟩])
  .ret))), [(.tmp p2)]⟩
def d9 : DFn := ⟨11, (.seq (.ops [⟨some p2, (.mov (.c (.int .i64 0))), none⟩])
  (.seq (.seq (.ops [⟨some p3, (.mov (.t p0)), none⟩, ⟨some p4, (.c (.func 17 [(.t p3)])), none⟩, ⟨some p5, (.p (.un .not (.t p4))), none⟩])
  (.cond (.t p5) (.seq (.ops [⟨some p2, (.mov (.c (.int .i64 0))), none⟩])
  .ret) .skip))
  (.seq (.ops [⟨some p6, (.mov (.t p0)), none⟩, ⟨some p7, (.p (.nilCheck (.t p6))), none⟩, ⟨some p8, (.p (.fieldAddr 1 (.t p7))), none⟩, ⟨some p9, (.r (.load .one (.t p8))), none⟩, ⟨some p10, (.p (.lenSlice (.t p9))), none⟩, ⟨some p2, (.mov (.t p10)), none⟩])
  .ret))), [(.tmp p2)]⟩
def d10 : DFn := ⟨14, (.seq (.ops [⟨some p4, (.mov (.c (.int .i64 0))), none⟩])
  (.seq (.seq (.ops [⟨some p5, (.mov (.t p0)), none⟩, ⟨some p6, (.c (.func 17 [(.t p5)])), none⟩, ⟨some p7, (.p (.un .not (.t p6))), none⟩])
  (.cond (.t p7) (.seq (.ops [⟨some p4, (.mov (.c (.int .i64 0))), none⟩])
  .ret) .skip))
  (.seq (.ops [⟨some p8, (.mov (.t p0)), none⟩, ⟨some p9, (.p (.nilCheck (.t p8))), none⟩, ⟨some p10, (.p (.fieldAddr 3 (.t p9))), none⟩, ⟨some p11, (.r (.load .one (.t p10))), none⟩, ⟨some p12, (.mov (.t p1)), none⟩, ⟨some p13, (.r (.lookup .str (.int .i64 0) false (.t p11) (.t p12))), none⟩, ⟨some p4, (.mov (.t p13)), none⟩])
  .ret))), [(.tmp p4)]⟩
def d11 : DFn := ⟨11, (.seq (.ops [⟨some p2, (.mov (.c (.nilSlice 0))), none⟩])
  (.seq (.seq (.ops [⟨some p3, (.mov (.t p0)), none⟩, ⟨some p4, (.c (.func 17 [(.t p3)])), none⟩, ⟨some p5, (.p (.un .not (.t p4))), none⟩])
  (.cond (.t p5) (.seq (.ops [⟨some p2, (.mov (.c (.nilSlice 0))), none⟩])
  .ret) .skip))
  (.seq (.ops [⟨some p6, (.mov (.t p0)), none⟩, ⟨some p7, (.p (.nilCheck (.t p6))), none⟩, ⟨some p8, (.p (.fieldAddr 2 (.t p7))), none⟩, ⟨some p9, (.r (.load .one (.t p8))), none⟩, ⟨some p10, (.e (.append 95 2 32 (.c (.nilSlice 0)) (.t p9))), none⟩, ⟨some p2, (.mov (.t p10)), none⟩])
  .ret))), [(.tmp p2)]⟩
def d12 : DFn := ⟨45, (.seq (.ops [⟨some p6, (.mov (.c (.nilSlice 0))), none⟩])
  (.seq (.seq (.ops [⟨some p7, (.mov (.t p0)), none⟩, ⟨some p8, (.c (.func 17 [(.t p7)])), none⟩, ⟨some p9, (.p (.un .not (.t p8))), none⟩, ⟨some p10, (.mov (.t p9)), none⟩, ⟨some p11, (.mov (.t p1)), some (p10, false)⟩, ⟨some p12, (.p (.bin .lss .none (.t p11) (.c (.int .i64 0)))), some (p10, false)⟩, ⟨some p13, (.p (.pick (.t p10) (.c (.bool true)) (.t p12))), none⟩, ⟨some p14, (.mov (.t p13)), none⟩, ⟨some p15, (.mov (.t p1)), some (p14, false)⟩, ⟨some p16, (.mov (.t p0)), some (p14, false)⟩, ⟨some p17, (.p (.nilCheck (.t p16))), some (p14, false)⟩, ⟨some p18, (.p (.fieldAddr 1 (.t p17))), some (p14, false)⟩, ⟨some p19, (.r (.load .one (.t p18))), some (p14, false)⟩, ⟨some p20, (.p (.lenSlice (.t p19))), some (p14, false)⟩, ⟨some p21, (.p (.bin .geq .none (.t p15) (.t p20))), some (p14, false)⟩, ⟨some p22, (.p (.pick (.t p14) (.c (.bool true)) (.t p21))), none⟩, ⟨some p23, (.mov (.t p22)), none⟩, ⟨some p24, (.mov (.t p2)), some (p23, false)⟩, ⟨some p25, (.p (.bin .lss .none (.t p24) (.c (.int .i64 1)))), some (p23, false)⟩, ⟨some p26, (.p (.pick (.t p23) (.c (.bool true)) (.t p25))), none⟩])
  (.cond (.t p26) (.seq (.ops [⟨some p6, (.mov (.c (.nilSlice 0))), none⟩])
  .ret) .skip))
  (.seq (.draw [] [(⟨some p27, (.mov (.t p0)), none⟩, 0, 0), (⟨some p28, (.p (.nilCheck (.t p27))), none⟩, 0, 0), (⟨some p29, (.p (.fieldAddr 1 (.t p28))), none⟩, 0, 0), (⟨some p30, (.r (.load .one (.t p29))), none⟩, 0, 0), (⟨some p31, (.mov (.t p1)), none⟩, 0, 0), (⟨some p32, (.mov (.t p1)), none⟩, 0, 0), (⟨some p33, (.mov (.t p2)), none⟩, 0, 0), (⟨some p34, (.mov (.t p0)), none⟩, 0, 0), (⟨some p35, (.p (.nilCheck (.t p34))), none⟩, 0, 0), (⟨some p36, (.p (.fieldAddr 1 (.t p35))), none⟩, 0, 0), (⟨some p37, (.r (.load .one (.t p36))), none⟩, 0, 0), (⟨some p38, (.p (.lenSlice (.t p37))), none⟩, 0, 0), (⟨some p39, (.mov (.t p1)), none⟩, 0, 0), (⟨some p40, (.p (.bin .sub .none (.t p38) (.t p39))), none⟩, 0, 0), (⟨some p41, (.p (.minI (.t p33) (.t p40))), none⟩, 0, 0), (⟨some p42, (.p (.bin .add .none (.t p32) (.t p41))), none⟩, 0, 0), (⟨some p43, (.p (.slice 6 (.t p30) (some (.t p31)) (some (.t p42)) none)), none⟩, 0, 0), (⟨some p44, (.e (.append 65 6 80 (.c (.nilSlice 0)) (.t p43))), none⟩, 0, 1), (⟨some p6, (.mov (.t p44)), none⟩, 1, 1)])
  .ret))), [(.tmp p6)]⟩
def d13 : DFn := ⟨26, (.seq (.ops [⟨some p2, (.e (.box 48 (.t p0))), none⟩, ⟨some p3, (.e (.box 48 (.t p1))), none⟩, ⟨some p4, (.mov (.c (.bool false))), none⟩])
  (.seq (.ops [⟨some p5, (.p (.fieldAddr 0 (.t p2))), none⟩, ⟨some p6, (.r (.load .one (.t p5))), none⟩, ⟨some p7, (.p (.fieldAddr 0 (.t p3))), none⟩, ⟨some p8, (.r (.load .one (.t p7))), none⟩, ⟨some p9, (.p (.bin .eql .none (.t p6) (.t p8))), none⟩, ⟨some p10, (.mov (.t p9)), none⟩, ⟨some p11, (.p (.fieldAddr 2 (.t p2))), some (p10, true)⟩, ⟨some p12, (.r (.load .one (.t p11))), some (p10, true)⟩, ⟨some p13, (.r (.bytesStr (.t p12))), some (p10, true)⟩, ⟨some p14, (.p (.fieldAddr 2 (.t p3))), some (p10, true)⟩, ⟨some p15, (.r (.load .one (.t p14))), some (p10, true)⟩, ⟨some p16, (.r (.bytesStr (.t p15))), some (p10, true)⟩, ⟨some p17, (.p (.bin .eql .none (.t p13) (.t p16))), some (p10, true)⟩, ⟨some p18, (.p (.pick (.t p10) (.t p17) (.c (.bool false)))), none⟩, ⟨some p19, (.mov (.t p18)), none⟩, ⟨some p20, (.p (.fieldAddr 1 (.t p2))), some (p19, true)⟩, ⟨some p21, (.r (.load .one (.t p20))), some (p19, true)⟩, ⟨some p22, (.p (.fieldAddr 1 (.t p3))), some (p19, true)⟩, ⟨some p23, (.r (.load .one (.t p22))), some (p19, true)⟩, ⟨some p24, (.c (.func 23 [(.t p21), (.t p23)])), some (p19, true)⟩, ⟨some p25, (.p (.pick (.t p19) (.t p24) (.c (.bool false)))), none⟩, ⟨some p4, (.mov (.t p25)), none⟩])
  .ret)), [(.tmp p4)]⟩
def d14 : DFn := ⟨83, (.seq (.ops [⟨some p7, (.e (.box 28 (.t p3))), none⟩, ⟨some p8, (.e (.alloc 48 [(.int .i64 0), (.nilSlice 0), (.nilSlice 0)])), none⟩])
  (.seq (.seq (.ops [⟨some p18, (.mov (.t p0)), none⟩, ⟨some p19, (.c (.func 17 [(.t p18)])), none⟩, ⟨some p20, (.p (.un .not (.t p19))), none⟩])
  (.cond (.t p20) (.seq (.ops [⟨some p21, (.p (.build [(.int .i64 0), (.nilSlice 0), (.nilSlice 0)] [(0, 1, (.c (.int .i64 500)))])), none⟩, ⟨none, (.e (.store 3 (.t p8) (.t p21))), none⟩])
  .ret) .skip))
  (.seq (.ops [⟨some p9, (.mov (.c (.str [71, 69, 84]))), none⟩])
  (.seq (.seq (.ops [⟨some p22, (.p (.fieldAddr 1 (.t p7))), none⟩, ⟨some p23, (.r (.load .one (.t p22))), none⟩])
  (.block 0 (.seq (.block 3 (.seq (.block 2 (.seq (.block 1 (.seq (.seq (.seq (.seq (.ops [⟨some p25, (.p (.bin .eql .none (.t p23) (.c (.str [47, 112, 117, 115, 104])))), none⟩, ⟨some p24, (.mov (.t p25)), none⟩])
  (.cond (.t p24) .skip (.ops [⟨some p26, (.p (.bin .eql .none (.t p23) (.c (.str [47, 112, 117, 108, 108])))), none⟩, ⟨some p24, (.mov (.t p26)), none⟩])))
  (.cond (.t p24) (.exit 1) .skip))
  (.seq (.seq (.ops [⟨some p28, (.p (.bin .eql .none (.t p23) (.c (.str [47, 116, 111, 112])))), none⟩, ⟨some p27, (.mov (.t p28)), none⟩])
  (.cond (.t p27) .skip (.ops [⟨some p29, (.p (.bin .eql .none (.t p23) (.c (.str [47, 112, 111, 107, 101])))), none⟩, ⟨some p27, (.mov (.t p29)), none⟩])))
  (.cond (.t p27) (.exit 2) .skip)))
  (.exit 3)))
  (.ops [⟨some p9, (.mov (.c (.str [80, 79, 83, 84]))), none⟩])))
  (.seq (.seq (.ops [⟨some p30, (.p (.fieldAddr 0 (.t p7))), none⟩, ⟨some p31, (.r (.load .one (.t p30))), none⟩, ⟨some p32, (.mov (.t p9)), none⟩, ⟨some p33, (.p (.bin .neq .none (.t p31) (.t p32))), none⟩])
  (.cond (.t p33) (.seq (.ops [⟨some p34, (.p (.build [(.int .i64 0), (.nilSlice 0), (.nilSlice 0)] [(0, 1, (.c (.int .i64 405)))])), none⟩, ⟨none, (.e (.store 3 (.t p8) (.t p34))), none⟩])
  .ret) .skip))
  (.exit 0))))
  (.seq (.seq (.ops [⟨some p35, (.p (.build [(.int .i64 0), (.nilSlice 0), (.nilSlice 0)] [(0, 1, (.c (.int .i64 404)))])), none⟩, ⟨none, (.e (.store 3 (.t p8) (.t p35))), none⟩])
  .ret)
  (.exit 0)))))
  (.seq (.ops [⟨some p37, (.r (.load (.many 4) (.t p7))), none⟩, ⟨some p38, (.c (.func 24 [(.t p37)])), none⟩, ⟨some p36, (.mov (.t p38)), none⟩, ⟨some p39, (.p (.extract 0 (.t p36))), none⟩, ⟨some p40, (.p (.extract 1 (.t p36))), none⟩, ⟨some p10, (.mov (.t p39)), none⟩, ⟨some p11, (.mov (.t p40)), none⟩])
  (.seq (.ops [⟨some p42, (.mov (.t p1)), none⟩, ⟨some p43, (.mov (.t p2)), none⟩, ⟨some p44, (.mov (.t p10)), none⟩, ⟨some p45, (.c (.func 25 [(.t p42), (.t p43), (.t p44)])), none⟩, ⟨some p41, (.mov (.t p45)), none⟩, ⟨some p46, (.p (.extract 0 (.t p41))), none⟩, ⟨some p47, (.p (.extract 1 (.t p41))), none⟩, ⟨some p12, (.e (.alloc 73 [(.str []), (.str []), (.int .i64 0)])), none⟩, ⟨none, (.e (.store 3 (.t p12) (.t p46))), none⟩, ⟨some p13, (.mov (.t p47)), none⟩])
  (.seq (.seq (.ops [⟨some p48, (.mov (.t p13)), none⟩, ⟨some p49, (.p (.bin .neq .none (.t p48) (.c (.int .i64 0)))), none⟩])
  (.cond (.t p49) (.seq (.ops [⟨some p50, (.p (.build [(.int .i64 0), (.nilSlice 0), (.nilSlice 0)] [(0, 1, (.c (.int .i64 401)))])), none⟩, ⟨none, (.e (.store 3 (.t p8) (.t p50))), none⟩])
  .ret) .skip))
  (.seq (.seq (.ops [⟨some p51, (.p (.fieldAddr 1 (.t p7))), none⟩, ⟨some p52, (.r (.load .one (.t p51))), none⟩])
  (.block 4 (.seq (.ops [⟨some p54, (.p (.bin .eql .none (.t p52) (.c (.str [47, 116, 111, 112])))), none⟩, ⟨some p53, (.mov (.t p54)), none⟩])
  (.cond (.t p53) (.seq (.ops [⟨some p55, (.mov (.t p0)), none⟩, ⟨some p56, (.p (.nilCheck (.t p55))), none⟩, ⟨some p57, (.p (.fieldAddr 1 (.t p56))), none⟩, ⟨some p58, (.r (.load .one (.t p57))), none⟩, ⟨some p59, (.p (.lenSlice (.t p58))), none⟩, ⟨some p60, (.p (.build [(.int .i64 0), (.str []), (.int .i64 0), (.int .i64 0), (.int .i64 0), (.int .i64 0), (.nilSlice 0)] [(0, 1, (.c (.int .i64 5))), (5, 1, (.t p59))])), none⟩, ⟨some p61, (.c (.func 26 [(.t p60)])), none⟩, ⟨none, (.e (.store 3 (.t p8) (.t p61))), none⟩])
  .ret) (.seq (.ops [⟨some p63, (.p (.bin .eql .none (.t p52) (.c (.str [47, 112, 111, 107, 101])))), none⟩, ⟨some p62, (.mov (.t p63)), none⟩])
  (.cond (.t p62) (.seq (.ops [⟨some p65, (.r (.load (.many 4) (.t p7))), none⟩, ⟨some p66, (.c (.func 27 [(.t p65)])), none⟩, ⟨some p64, (.mov (.t p66)), none⟩, ⟨some p67, (.p (.extract 0 (.t p64))), none⟩, ⟨some p68, (.p (.extract 1 (.t p64))), none⟩, ⟨some p14, (.mov (.t p67)), none⟩, ⟨some p15, (.mov (.t p68)), none⟩])
  (.seq (.seq (.ops [⟨some p69, (.mov (.t p15)), none⟩, ⟨some p70, (.p (.un .not (.t p69))), none⟩])
  (.cond (.t p70) (.seq (.ops [⟨some p71, (.p (.build [(.int .i64 0), (.nilSlice 0), (.nilSlice 0)] [(0, 1, (.c (.int .i64 426)))])), none⟩, ⟨none, (.e (.store 3 (.t p8) (.t p71))), none⟩])
  .ret) .skip))
  (.seq (.ops [⟨some p73, (.mov (.t p14)), none⟩, ⟨some p74, (.c (.func 28 [(.t p73)])), none⟩, ⟨some p72, (.mov (.t p74)), none⟩, ⟨some p75, (.p (.extract 0 (.t p72))), none⟩, ⟨some p76, (.p (.extract 1 (.t p72))), none⟩, ⟨some p16, (.e (.alloc 48 [(.int .i64 0), (.nilSlice 0), (.nilSlice 0)])), none⟩, ⟨none, (.e (.store 3 (.t p16) (.t p75))), none⟩, ⟨some p17, (.mov (.t p76)), none⟩])
  (.seq (.ops [⟨some p77, (.r (.load (.many 3) (.t p16))), none⟩, ⟨none, (.e (.store 3 (.t p8) (.t p77))), none⟩])
  .ret)))) .skip))))))
  (.seq (.ops [⟨some p78, (.mov (.t p0)), none⟩, ⟨some p79, (.p (.fieldAddr 0 (.t p12))), none⟩, ⟨some p80, (.r (.load .one (.t p79))), none⟩, ⟨some p81, (.r (.load (.many 4) (.t p7))), none⟩, ⟨some p82, (.c (.func 29 [(.t p78), (.t p80), (.t p81)])), none⟩, ⟨none, (.e (.store 3 (.t p8) (.t p82))), none⟩])
  .ret))))))))), [(.cell p8 (.many 3))]⟩
def d15 : DFn := ⟨90, (.seq (.ops [⟨some p2, (.mov (.c .nilPtr)), none⟩, ⟨some p3, (.mov (.c (.int .i64 0))), none⟩])
  (.seq (.ops [⟨some p19, (.mov (.t p0)), none⟩, ⟨some p20, (.c (.func 30 [(.t p19)])), none⟩, ⟨some p18, (.mov (.t p20)), none⟩, ⟨some p21, (.p (.extract 0 (.t p18))), none⟩, ⟨some p22, (.p (.extract 1 (.t p18))), none⟩, ⟨some p4, (.mov (.t p21)), none⟩, ⟨some p5, (.mov (.t p22)), none⟩])
  (.seq (.seq (.ops [⟨some p23, (.mov (.t p5)), none⟩, ⟨some p24, (.p (.bin .neq .none (.t p23) (.c (.int .i64 0)))), none⟩])
  (.cond (.t p24) (.seq (.ops [⟨some p25, (.mov (.t p5)), none⟩, ⟨some p2, (.mov (.c .nilPtr)), none⟩, ⟨some p3, (.mov (.t p25)), none⟩])
  .ret) .skip))
  (.seq (.ops [⟨some p26, (.mov (.t p4)), none⟩, ⟨some p27, (.e .makeMap), none⟩, ⟨some p28, (.p (.build [.nilPtr, (.nilSlice 0), (.nilSlice 0), .nilMap] [(0, 1, (.t p26)), (3, 1, (.t p27))])), none⟩, ⟨some p29, (.e (.box 34 (.t p28))), none⟩, ⟨some p6, (.mov (.t p29)), none⟩])
  (.seq (.seq (.ops [⟨some p7, (.mov (.c (.int .i64 1))), none⟩])
  (.block 0 (.loop (.seq (.seq (.ops [⟨some p30, (.mov (.t p7)), none⟩, ⟨some p31, (.mov (.t p4)), none⟩, ⟨some p32, (.c (.func 31 [(.t p31)])), none⟩, ⟨some p33, (.p (.bin .leq .none (.t p30) (.t p32))), none⟩])
  (.cond (.t p33) .skip (.exit 0)))
  (.seq (.block 1 (.seq (.ops [⟨some p37, (.mov (.t p4)), none⟩, ⟨some p38, (.mov (.t p7)), none⟩, ⟨some p39, (.c (.func 33 [(.t p38)])), none⟩, ⟨some p40, (.c (.func 32 [(.t p37), (.t p39)])), none⟩, ⟨some p36, (.mov (.t p40)), none⟩, ⟨some p41, (.p (.extract 0 (.t p36))), none⟩, ⟨some p42, (.p (.extract 1 (.t p36))), none⟩, ⟨some p8, (.e (.alloc 83 [(.str []), (.bool false), (.str []), (.int .i64 0)])), none⟩, ⟨none, (.e (.store 4 (.t p8) (.t p41))), none⟩, ⟨some p9, (.mov (.t p42)), none⟩])
  (.seq (.ops [⟨some p44, (.p (.fieldAddr 2 (.t p8))), none⟩, ⟨some p45, (.r (.load .one (.t p44))), none⟩, ⟨some p46, (.c (.func 34 [(.t p45)])), none⟩, ⟨some p43, (.mov (.t p46)), none⟩, ⟨some p47, (.p (.extract 0 (.t p43))), none⟩, ⟨some p48, (.p (.extract 1 (.t p43))), none⟩, ⟨some p10, (.e (.alloc 65 [(.str []), (.int .i64 0), (.int .i64 0), (.str []), (.str []), (.str [])])), none⟩, ⟨none, (.e (.store 6 (.t p10) (.t p47))), none⟩, ⟨some p11, (.mov (.t p48)), none⟩])
  (.seq (.ops [⟨some p49, (.mov (.t p11)), none⟩, ⟨some p50, (.p (.bin .neq .none (.t p49) (.c (.int .i64 0)))), none⟩, ⟨some p51, (.mov (.t p50)), none⟩, ⟨some p52, (.mov (.t p6)), some (p51, false)⟩, ⟨some p53, (.r (.load (.many 6) (.t p10))), some (p51, false)⟩, ⟨some p54, (.c (.func 35 [(.t p52), (.t p53)])), some (p51, false)⟩, ⟨some p55, (.p (.un .not (.t p54))), some (p51, false)⟩, ⟨some p56, (.p (.pick (.t p51) (.c (.bool true)) (.t p55))), none⟩])
  (.cond (.t p56) (.seq (.ops [⟨some p2, (.mov (.c .nilPtr)), none⟩, ⟨some p3, (.mov (.c (.int .i64 60))), none⟩])
  .ret) .skip)))))
  (.ops [⟨some p34, (.mov (.t p7)), none⟩, ⟨some p35, (.p (.bin .add .none (.t p34) (.c (.int .i64 1)))), none⟩, ⟨some p7, (.mov (.t p35)), none⟩]))))))
  (.seq (.ops [⟨some p57, (.mov (.t p6)), none⟩, ⟨some p58, (.c (.func 36 [(.t p57)])), none⟩, ⟨some p12, (.mov (.t p58)), none⟩])
  (.seq (.ops [⟨some p59, (.mov (.t p4)), none⟩, ⟨some p60, (.c (.func 37 [(.t p59), (.c (.str [])), (.c (.str []))])), none⟩, ⟨some p13, (.mov (.t p60)), none⟩])
  (.seq (.seq (.ops [⟨some p61, (.mov (.t p13)), none⟩, ⟨some p62, (.p (.lenSlice (.t p61))), none⟩, ⟨some p63, (.mov (.t p12)), none⟩, ⟨some p64, (.r (.mapLen (.t p63))), none⟩, ⟨some p65, (.p (.bin .neq .none (.t p62) (.t p64))), none⟩])
  (.cond (.t p65) (.seq (.ops [⟨some p2, (.mov (.c .nilPtr)), none⟩, ⟨some p3, (.mov (.c (.int .i64 60))), none⟩])
  .ret) .skip))
  (.seq (.seq (.ops [⟨some p66, (.mov (.t p13)), none⟩, ⟨some p67, (.p (.lenSlice (.t p66))), none⟩, ⟨some p68, (.mov (.c (.int .i64 0))), none⟩])
  (.block 2 (.loop (.seq (.ops [⟨some p69, (.p (.bin .lss .none (.t p68) (.t p67))), none⟩])
  (.seq (.cond (.t p69) .skip (.exit 2))
  (.seq (.block 3 (.seq (.ops [⟨some p70, (.p (.indexAddr 4 (.t p66) (.t p68))), none⟩, ⟨some p71, (.r (.load (.many 4) (.t p70))), none⟩, ⟨some p15, (.e (.alloc 83 [(.str []), (.bool false), (.str []), (.int .i64 0)])), none⟩, ⟨none, (.e (.store 4 (.t p15) (.t p71))), none⟩])
  (.seq (.ops [⟨some p73, (.mov (.t p12)), none⟩, ⟨some p74, (.p (.fieldAddr 0 (.t p15))), none⟩, ⟨some p75, (.r (.load .one (.t p74))), none⟩, ⟨some p76, (.r (.lookup .str (.agg [(.str []), (.str [])]) true (.t p73) (.t p75))), none⟩, ⟨some p72, (.mov (.t p76)), none⟩, ⟨some p77, (.p (.extract 0 (.t p72))), none⟩, ⟨some p78, (.p (.extract 1 (.t p72))), none⟩, ⟨some p16, (.e (.alloc 95 [(.str []), (.str [])])), none⟩, ⟨none, (.e (.store 2 (.t p16) (.t p77))), none⟩, ⟨some p17, (.mov (.t p78)), none⟩])
  (.seq (.ops [⟨some p79, (.mov (.t p17)), none⟩, ⟨some p80, (.p (.un .not (.t p79))), none⟩, ⟨some p81, (.mov (.t p80)), none⟩, ⟨some p82, (.p (.fieldAddr 1 (.t p16))), some (p81, false)⟩, ⟨some p83, (.r (.load .one (.t p82))), some (p81, false)⟩, ⟨some p84, (.p (.fieldAddr 2 (.t p15))), some (p81, false)⟩, ⟨some p85, (.r (.load .one (.t p84))), some (p81, false)⟩, ⟨some p86, (.p (.bin .neq .none (.t p83) (.t p85))), some (p81, false)⟩, ⟨some p87, (.p (.pick (.t p81) (.c (.bool true)) (.t p86))), none⟩])
  (.cond (.t p87) (.seq (.ops [⟨some p2, (.mov (.c .nilPtr)), none⟩, ⟨some p3, (.mov (.c (.int .i64 60))), none⟩])
  .ret) .skip)))))
  (.ops [⟨some p88, (.p (.bin .add .none (.t p68) (.c (.int .i64 1)))), none⟩, ⟨some p68, (.mov (.t p88)), none⟩])))))))
  (.seq (.ops [⟨some p89, (.mov (.t p6)), none⟩, ⟨some p2, (.mov (.t p89)), none⟩, ⟨some p3, (.mov (.c (.int .i64 0))), none⟩])
  .ret)))))))))), [(.tmp p2), (.tmp p3)]⟩
def d16 : DFn := ⟨64, (.seq (.ops [⟨some p0, (.mov (.c (.bool false))), none⟩])
  (.seq (.ops [⟨some p9, (.c (.func 38 [(.c (.int .i64 10000))])), none⟩, ⟨some p8, (.mov (.t p9)), none⟩, ⟨some p10, (.p (.extract 0 (.t p8))), none⟩, ⟨some p11, (.p (.extract 1 (.t p8))), none⟩, ⟨some p12, (.p (.extract 2 (.t p8))), none⟩, ⟨some p1, (.mov (.t p10)), none⟩, ⟨some p2, (.mov (.t p11)), none⟩, ⟨some p3, (.mov (.t p12)), none⟩])
  (.seq (.seq (.ops [⟨some p13, (.mov (.t p3)), none⟩, ⟨some p14, (.p (.un .not (.t p13))), none⟩])
  (.cond (.t p14) (.seq (.ops [⟨some p0, (.mov (.c (.bool false))), none⟩])
  .ret) .skip))
  (.seq (.ops [⟨some p16, (.mov (.t p2)), none⟩, ⟨some p17, (.c (.func 39 [(.c (.str [99, 49]))])), none⟩, ⟨some p18, (.c (.func 4 [(.t p16), (.t p17)])), none⟩, ⟨some p15, (.mov (.t p18)), none⟩, ⟨some p19, (.p (.extract 0 (.t p15))), none⟩, ⟨some p20, (.p (.extract 1 (.t p15))), none⟩, ⟨some p4, (.e (.alloc 24 [(.int .i64 0), (.str []), (.int .i64 0), (.int .i64 0), (.int .i64 0), (.int .i64 0), (.nilSlice 0)])), none⟩, ⟨none, (.e (.store 7 (.t p4) (.t p19))), none⟩, ⟨some p5, (.mov (.t p20)), none⟩])
  (.seq (.ops [⟨some p22, (.mov (.t p2)), none⟩, ⟨some p23, (.c (.func 39 [(.c (.str [99, 49]))])), none⟩, ⟨some p24, (.c (.func 4 [(.t p22), (.t p23)])), none⟩, ⟨some p21, (.mov (.t p24)), none⟩, ⟨some p25, (.p (.extract 0 (.t p21))), none⟩, ⟨some p26, (.p (.extract 1 (.t p21))), none⟩, ⟨some p6, (.e (.alloc 24 [(.int .i64 0), (.str []), (.int .i64 0), (.int .i64 0), (.int .i64 0), (.int .i64 0), (.nilSlice 0)])), none⟩, ⟨none, (.e (.store 7 (.t p6) (.t p25))), none⟩, ⟨some p7, (.mov (.t p26)), none⟩])
  (.seq (.ops [⟨some p27, (.mov (.t p5)), none⟩, ⟨some p28, (.p (.bin .eql .none (.t p27) (.c (.int .i64 0)))), none⟩, ⟨some p29, (.mov (.t p28)), none⟩, ⟨some p30, (.mov (.t p7)), some (p29, true)⟩, ⟨some p31, (.p (.bin .eql .none (.t p30) (.c (.int .i64 0)))), some (p29, true)⟩, ⟨some p32, (.p (.pick (.t p29) (.t p31) (.c (.bool false)))), none⟩, ⟨some p33, (.mov (.t p32)), none⟩, ⟨some p34, (.p (.fieldAddr 4 (.t p4))), some (p33, true)⟩, ⟨some p35, (.r (.load .one (.t p34))), some (p33, true)⟩, ⟨some p36, (.p (.bin .eql .none (.t p35) (.c (.int .i64 1)))), some (p33, true)⟩, ⟨some p37, (.p (.pick (.t p33) (.t p36) (.c (.bool false)))), none⟩, ⟨some p38, (.mov (.t p37)), none⟩, ⟨some p39, (.p (.fieldAddr 5 (.t p4))), some (p38, true)⟩, ⟨some p40, (.r (.load .one (.t p39))), some (p38, true)⟩, ⟨some p41, (.p (.bin .eql .none (.t p40) (.c (.int .i64 1)))), some (p38, true)⟩, ⟨some p42, (.p (.pick (.t p38) (.t p41) (.c (.bool false)))), none⟩, ⟨some p43, (.mov (.t p42)), none⟩, ⟨some p44, (.r (.load (.many 7) (.t p4))), some (p43, true)⟩, ⟨some p45, (.r (.load (.many 7) (.t p6))), some (p43, true)⟩, ⟨some p46, (.c (.func 7 [(.t p44), (.t p45)])), some (p43, true)⟩, ⟨some p47, (.p (.pick (.t p43) (.t p46) (.c (.bool false)))), none⟩, ⟨some p48, (.mov (.t p47)), none⟩, ⟨some p49, (.mov (.t p2)), some (p48, true)⟩, ⟨some p50, (.c (.func 9 [(.t p49)])), some (p48, true)⟩, ⟨some p51, (.p (.bin .eql .none (.t p50) (.c (.int .i64 1)))), some (p48, true)⟩, ⟨some p52, (.p (.pick (.t p48) (.t p51) (.c (.bool false)))), none⟩, ⟨some p53, (.mov (.t p52)), none⟩, ⟨some p54, (.mov (.t p2)), some (p53, true)⟩, ⟨some p55, (.c (.func 10 [(.t p54), (.c (.str [99, 49]))])), some (p53, true)⟩, ⟨some p56, (.p (.bin .eql .none (.t p55) (.c (.int .i64 1)))), some (p53, true)⟩, ⟨some p57, (.p (.pick (.t p53) (.t p56) (.c (.bool false)))), none⟩, ⟨some p58, (.mov (.t p57)), none⟩, ⟨some p59, (.mov (.t p2)), some (p58, true)⟩, ⟨some p60, (.c (.func 11 [(.t p59)])), some (p58, true)⟩, ⟨some p61, (.p (.lenSlice (.t p60))), some (p58, true)⟩, ⟨some p62, (.p (.bin .eql .none (.t p61) (.c (.int .i64 1)))), some (p58, true)⟩, ⟨some p63, (.p (.pick (.t p58) (.t p62) (.c (.bool false)))), none⟩, ⟨some p0, (.mov (.t p63)), none⟩])
  .ret)))))), [(.tmp p0)]⟩
def d17 : DFn := ⟨12, (.seq (.ops [⟨some p2, (.mov (.c (.bool false))), none⟩])
  (.seq (.ops [⟨some p3, (.mov (.t p0)), none⟩, ⟨some p4, (.p (.bin .neq .ptr (.t p3) (.c .nilPtr))), none⟩, ⟨some p5, (.mov (.t p4)), none⟩, ⟨some p6, (.mov (.t p0)), some (p5, true)⟩, ⟨some p7, (.p (.nilCheck (.t p6))), some (p5, true)⟩, ⟨some p8, (.p (.fieldAddr 0 (.t p7))), some (p5, true)⟩, ⟨some p9, (.r (.load .one (.t p8))), some (p5, true)⟩, ⟨some p10, (.p (.bin .neq .ptr (.t p9) (.c .nilPtr))), some (p5, true)⟩, ⟨some p11, (.p (.pick (.t p5) (.t p10) (.c (.bool false)))), none⟩, ⟨some p2, (.mov (.t p11)), none⟩])
  .ret)), [(.tmp p2)]⟩
def d18 : DFn := ⟨94, (.seq (.ops [⟨some p1, (.e (.box 24 (.t p0))), none⟩, ⟨some p2, (.mov (.c (.int .i64 0))), none⟩])
  (.seq (.ops [⟨some p5, (.r (.load (.many 7) (.t p1))), none⟩, ⟨some p3, (.e (.alloc 24 [(.int .i64 0), (.str []), (.int .i64 0), (.int .i64 0), (.int .i64 0), (.int .i64 0), (.nilSlice 0)])), none⟩, ⟨none, (.e (.store 7 (.t p3) (.t p5))), none⟩])
  (.seq (.ops [⟨some p4, (.mov (.c (.bool false))), none⟩])
  (.seq (.seq (.ops [⟨some p6, (.p (.fieldAddr 0 (.t p1))), none⟩, ⟨some p7, (.r (.load .one (.t p6))), none⟩])
  (.block 0 (.seq (.ops [⟨some p9, (.p (.bin .eql .none (.t p7) (.c (.int .i64 1)))), none⟩, ⟨some p8, (.mov (.t p9)), none⟩])
  (.cond (.t p8) (.seq (.ops [⟨some p10, (.p (.fieldAddr 1 (.t p3))), none⟩, ⟨none, (.e (.store 1 (.t p10) (.c (.str [])))), none⟩, ⟨some p11, (.p (.fieldAddr 6 (.t p3))), none⟩, ⟨none, (.e (.store 1 (.t p11) (.c (.nilSlice 0)))), none⟩])
  (.ops [⟨some p12, (.r (.load (.many 7) (.t p1))), none⟩, ⟨some p13, (.c (.func 40 [(.t p12)])), none⟩, ⟨some p4, (.mov (.t p13)), none⟩])) (.seq (.ops [⟨some p15, (.p (.bin .eql .none (.t p7) (.c (.int .i64 2)))), none⟩, ⟨some p14, (.mov (.t p15)), none⟩])
  (.cond (.t p14) (.seq (.ops [⟨some p16, (.p (.fieldAddr 4 (.t p3))), none⟩, ⟨none, (.e (.store 1 (.t p16) (.c (.int .i64 0)))), none⟩, ⟨some p17, (.p (.fieldAddr 5 (.t p3))), none⟩, ⟨none, (.e (.store 1 (.t p17) (.c (.int .i64 0)))), none⟩])
  (.ops [⟨some p18, (.p (.fieldAddr 4 (.t p1))), none⟩, ⟨some p19, (.r (.load .one (.t p18))), none⟩, ⟨some p20, (.p (.bin .geq .none (.t p19) (.c (.int .i64 0)))), none⟩, ⟨some p21, (.mov (.t p20)), none⟩, ⟨some p22, (.p (.fieldAddr 5 (.t p1))), some (p21, true)⟩, ⟨some p23, (.r (.load .one (.t p22))), some (p21, true)⟩, ⟨some p24, (.c (.func 41 [(.t p23)])), some (p21, true)⟩, ⟨some p25, (.p (.pick (.t p21) (.t p24) (.c (.bool false)))), none⟩, ⟨some p4, (.mov (.t p25)), none⟩])) (.seq (.ops [⟨some p27, (.p (.bin .eql .none (.t p7) (.c (.int .i64 3)))), none⟩, ⟨some p26, (.mov (.t p27)), none⟩])
  (.cond (.t p26) (.seq (.ops [⟨some p28, (.p (.fieldAddr 1 (.t p3))), none⟩, ⟨none, (.e (.store 1 (.t p28) (.c (.str [])))), none⟩, ⟨some p29, (.p (.fieldAddr 3 (.t p3))), none⟩, ⟨none, (.e (.store 1 (.t p29) (.c (.int .i64 0)))), none⟩])
  (.ops [⟨some p30, (.p (.fieldAddr 1 (.t p1))), none⟩, ⟨some p31, (.r (.load .one (.t p30))), none⟩, ⟨some p32, (.c (.func 42 [(.t p31)])), none⟩, ⟨some p33, (.mov (.t p32)), none⟩, ⟨some p34, (.p (.fieldAddr 3 (.t p1))), some (p33, true)⟩, ⟨some p35, (.r (.load .one (.t p34))), some (p33, true)⟩, ⟨some p36, (.c (.func 41 [(.t p35)])), some (p33, true)⟩, ⟨some p37, (.p (.pick (.t p33) (.t p36) (.c (.bool false)))), none⟩, ⟨some p4, (.mov (.t p37)), none⟩])) (.seq (.ops [⟨some p39, (.p (.bin .eql .none (.t p7) (.c (.int .i64 4)))), none⟩, ⟨some p38, (.mov (.t p39)), none⟩])
  (.cond (.t p38) (.seq (.ops [⟨some p40, (.p (.fieldAddr 2 (.t p3))), none⟩, ⟨none, (.e (.store 1 (.t p40) (.c (.int .i64 0)))), none⟩, ⟨some p41, (.p (.fieldAddr 3 (.t p3))), none⟩, ⟨none, (.e (.store 1 (.t p41) (.c (.int .i64 0)))), none⟩, ⟨some p42, (.p (.fieldAddr 4 (.t p3))), none⟩, ⟨none, (.e (.store 1 (.t p42) (.c (.int .i64 0)))), none⟩, ⟨some p43, (.p (.fieldAddr 5 (.t p3))), none⟩, ⟨none, (.e (.store 1 (.t p43) (.c (.int .i64 0)))), none⟩, ⟨some p44, (.p (.fieldAddr 6 (.t p3))), none⟩, ⟨none, (.e (.store 1 (.t p44) (.c (.nilSlice 0)))), none⟩])
  (.ops [⟨some p45, (.p (.fieldAddr 2 (.t p1))), none⟩, ⟨some p46, (.r (.load .one (.t p45))), none⟩, ⟨some p47, (.c (.func 41 [(.t p46)])), none⟩, ⟨some p48, (.mov (.t p47)), none⟩, ⟨some p49, (.p (.fieldAddr 5 (.t p1))), some (p48, true)⟩, ⟨some p50, (.r (.load .one (.t p49))), some (p48, true)⟩, ⟨some p51, (.c (.func 41 [(.t p50)])), some (p48, true)⟩, ⟨some p52, (.p (.pick (.t p48) (.t p51) (.c (.bool false)))), none⟩, ⟨some p53, (.mov (.t p52)), none⟩, ⟨some p54, (.p (.fieldAddr 4 (.t p1))), some (p53, true)⟩, ⟨some p55, (.r (.load .one (.t p54))), some (p53, true)⟩, ⟨some p56, (.p (.bin .geq .none (.t p55) (.c (.int .i64 0)))), some (p53, true)⟩, ⟨some p57, (.p (.pick (.t p53) (.t p56) (.c (.bool false)))), none⟩, ⟨some p58, (.mov (.t p57)), none⟩, ⟨some p59, (.p (.fieldAddr 3 (.t p1))), some (p58, true)⟩, ⟨some p60, (.r (.load .one (.t p59))), some (p58, true)⟩, ⟨some p61, (.p (.fieldAddr 5 (.t p1))), some (p58, true)⟩, ⟨some p62, (.r (.load .one (.t p61))), some (p58, true)⟩, ⟨some p63, (.p (.bin .leq .none (.t p60) (.t p62))), some (p58, true)⟩, ⟨some p64, (.p (.pick (.t p58) (.t p63) (.c (.bool false)))), none⟩, ⟨some p65, (.mov (.t p64)), none⟩, ⟨some p66, (.p (.fieldAddr 3 (.t p1))), some (p65, true)⟩, ⟨some p67, (.r (.load .one (.t p66))), some (p65, true)⟩, ⟨some p68, (.p (.fieldAddr 2 (.t p1))), some (p65, true)⟩, ⟨some p69, (.r (.load .one (.t p68))), some (p65, true)⟩, ⟨some p70, (.p (.bin .sub .none (.t p67) (.t p69))), some (p65, true)⟩, ⟨some p71, (.p (.fieldAddr 6 (.t p1))), some (p65, true)⟩, ⟨some p72, (.r (.load .one (.t p71))), some (p65, true)⟩, ⟨some p73, (.p (.lenSlice (.t p72))), some (p65, true)⟩, ⟨some p74, (.p (.bin .eql .none (.t p70) (.t p73))), some (p65, true)⟩, ⟨some p75, (.p (.pick (.t p65) (.t p74) (.c (.bool false)))), none⟩, ⟨some p76, (.mov (.t p75)), none⟩, ⟨some p77, (.p (.fieldAddr 6 (.t p1))), some (p76, true)⟩, ⟨some p78, (.r (.load .one (.t p77))), some (p76, true)⟩, ⟨some p79, (.c (.func 43 [(.t p78)])), some (p76, true)⟩, ⟨some p80, (.p (.pick (.t p76) (.t p79) (.c (.bool false)))), none⟩, ⟨some p4, (.mov (.t p80)), none⟩])) (.seq (.ops [⟨some p82, (.p (.bin .eql .none (.t p7) (.c (.int .i64 5)))), none⟩, ⟨some p81, (.mov (.t p82)), none⟩])
  (.cond (.t p81) (.seq (.ops [⟨some p83, (.p (.fieldAddr 5 (.t p3))), none⟩, ⟨none, (.e (.store 1 (.t p83) (.c (.int .i64 0)))), none⟩])
  (.ops [⟨some p84, (.p (.fieldAddr 5 (.t p1))), none⟩, ⟨some p85, (.r (.load .one (.t p84))), none⟩, ⟨some p86, (.c (.func 41 [(.t p85)])), none⟩, ⟨some p4, (.mov (.t p86)), none⟩])) .skip))))))))))))
  (.seq (.seq (.ops [⟨some p87, (.mov (.t p4)), none⟩, ⟨some p88, (.p (.un .not (.t p87))), none⟩, ⟨some p89, (.mov (.t p88)), none⟩, ⟨some p90, (.r (.load (.many 7) (.t p3))), some (p89, false)⟩, ⟨some p91, (.c (.func 44 [(.t p90)])), some (p89, false)⟩, ⟨some p92, (.p (.un .not (.t p91))), some (p89, false)⟩, ⟨some p93, (.p (.pick (.t p89) (.c (.bool true)) (.t p92))), none⟩])
  (.cond (.t p93) (.seq (.ops [⟨some p2, (.mov (.c (.int .i64 130))), none⟩])
  .ret) .skip))
  (.seq (.ops [⟨some p2, (.mov (.c (.int .i64 0))), none⟩])
  .ret)))))), [(.tmp p2)]⟩
def d19 : DFn := ⟨79, (.seq (.ops [⟨some p3, (.e (.box 65 (.t p1))), none⟩, ⟨some p4, (.mov (.c (.int .i64 0))), none⟩])
  (.seq (.ops [⟨some p13, (.r (.load (.many 6) (.t p3))), none⟩, ⟨some p14, (.c (.func 45 [(.t p13)])), none⟩, ⟨some p12, (.mov (.t p14)), none⟩, ⟨some p15, (.p (.extract 0 (.t p12))), none⟩, ⟨some p16, (.p (.extract 1 (.t p12))), none⟩, ⟨some p5, (.mov (.t p15)), none⟩, ⟨some p6, (.mov (.t p16)), none⟩])
  (.seq (.seq (.ops [⟨some p17, (.mov (.t p6)), none⟩, ⟨some p18, (.p (.bin .neq .none (.t p17) (.c (.int .i64 0)))), none⟩])
  (.cond (.t p18) (.seq (.ops [⟨some p19, (.mov (.t p6)), none⟩, ⟨some p4, (.mov (.t p19)), none⟩])
  .ret) .skip))
  (.seq (.draw [] [(⟨some p21, (.mov (.t p0)), none⟩, 0, 0), (⟨some p22, (.p (.nilCheck (.t p21))), none⟩, 0, 0), (⟨some p23, (.p (.fieldAddr 2 (.t p22))), none⟩, 0, 0), (⟨some p24, (.r (.load .one (.t p23))), none⟩, 0, 0), (⟨some p25, (.p (.fieldAddr 0 (.t p3))), none⟩, 0, 0), (⟨some p26, (.r (.load .one (.t p25))), none⟩, 0, 0), (⟨some p27, (.p (.fieldAddr 2 (.t p3))), none⟩, 0, 0), (⟨some p28, (.r (.load (.many 4) (.t p27))), none⟩, 0, 0), (⟨some p29, (.c (.func 46 [(.t p24), (.t p26), (.t p28)])), none⟩, 0, 1), (⟨some p20, (.mov (.t p29)), none⟩, 1, 1), (⟨some p30, (.p (.extract 0 (.t p20))), none⟩, 1, 1), (⟨some p31, (.p (.extract 1 (.t p20))), none⟩, 1, 1), (⟨some p7, (.mov (.t p30)), none⟩, 1, 1), (⟨some p8, (.mov (.t p31)), none⟩, 1, 1)])
  (.seq (.draw [] [(⟨some p32, (.mov (.t p0)), none⟩, 0, 0), (⟨some p33, (.p (.nilCheck (.t p32))), none⟩, 0, 0), (⟨some p34, (.p (.fieldAddr 1 (.t p33))), none⟩, 0, 0), (⟨some p35, (.r (.load .one (.t p34))), none⟩, 0, 0), (⟨some p36, (.p (.lenSlice (.t p35))), none⟩, 0, 0), (⟨some p37, (.p (.bin .add .none (.t p36) (.c (.int .i64 1)))), none⟩, 0, 0), (⟨some p38, (.c (.func 33 [(.t p37)])), none⟩, 0, 1), (⟨some p39, (.mov (.t p5)), none⟩, 0, 2), (⟨some p40, (.p (.build [(.str []), (.bool false), (.str [])] [(0, 1, (.t p38)), (2, 1, (.t p39))])), none⟩, 1, 2), (⟨some p41, (.p (.fieldAddr 0 (.t p3))), none⟩, 0, 2), (⟨some p42, (.r (.load .one (.t p41))), none⟩, 0, 2), (⟨some p43, (.p (.bin .add .none (.c (.str [110, 47])) (.t p42))), none⟩, 0, 2), (⟨some p44, (.p (.fieldAddr 1 (.t p3))), none⟩, 0, 1), (⟨some p45, (.r (.load .one (.t p44))), none⟩, 0, 1), (⟨some p46, (.c (.func 47 [(.t p45)])), none⟩, 1, 2), (⟨some p47, (.p (.build [(.str []), (.bool false), (.str [])] [(0, 1, (.t p43)), (2, 1, (.t p46))])), none⟩, 2, 2), (⟨some p48, (.e (.buildSlice 112 3 2 [(.str []), (.bool false), (.str []), (.str []), (.bool false), (.str [])] [(0, (.t p40)), (1, (.t p47))])), none⟩, 2, 3), (⟨some p9, (.mov (.t p48)), none⟩, 3, 3)])
  (.seq (.seq (.ops [⟨some p49, (.mov (.t p7)), none⟩, ⟨some p50, (.p (.lenSlice (.t p49))), none⟩, ⟨some p51, (.mov (.c (.int .i64 0))), none⟩])
  (.block 0 (.loop (.seq (.ops [⟨some p52, (.p (.bin .lss .none (.t p51) (.t p50))), none⟩])
  (.seq (.cond (.t p52) .skip (.exit 0))
  (.seq (.block 1 (.seq (.ops [⟨some p53, (.p (.indexAddr 3 (.t p49) (.t p51))), none⟩, ⟨some p54, (.r (.load (.many 3) (.t p53))), none⟩, ⟨some p11, (.e (.alloc 112 [(.str []), (.bool false), (.str [])])), none⟩, ⟨none, (.e (.store 3 (.t p11) (.t p54))), none⟩])
  (.seq (.ops [⟨some p55, (.p (.fieldAddr 0 (.t p11))), none⟩, ⟨some p56, (.r (.load .one (.t p55))), none⟩, ⟨some p57, (.p (.bin .add .none (.c (.str [100, 47])) (.t p56))), none⟩, ⟨some p58, (.p (.fieldAddr 0 (.t p11))), none⟩, ⟨none, (.e (.store 1 (.t p58) (.t p57))), none⟩])
  (.ops [⟨some p59, (.mov (.t p9)), none⟩, ⟨some p60, (.r (.load (.many 3) (.t p11))), none⟩, ⟨some p61, (.e (.buildSlice 112 3 1 [(.str []), (.bool false), (.str [])] [(0, (.t p60))])), none⟩, ⟨some p62, (.e (.append 112 3 40 (.t p59) (.t p61))), none⟩, ⟨some p9, (.mov (.t p62)), none⟩]))))
  (.ops [⟨some p63, (.p (.bin .add .none (.t p51) (.c (.int .i64 1)))), none⟩, ⟨some p51, (.mov (.t p63)), none⟩])))))))
  (.seq (.seq (.ops [⟨some p65, (.mov (.t p0)), none⟩, ⟨some p66, (.p (.nilCheck (.t p65))), none⟩, ⟨some p67, (.p (.fieldAddr 0 (.t p66))), none⟩, ⟨some p68, (.r (.load .one (.t p67))), none⟩, ⟨some p69, (.mov (.t p9)), none⟩, ⟨some p70, (.c (.func 48 [(.t p68), (.t p69)])), none⟩, ⟨some p64, (.mov (.t p70)), none⟩, ⟨some p71, (.p (.extract 0 (.t p64))), none⟩, ⟨some p72, (.p (.extract 1 (.t p64))), none⟩, ⟨some p6, (.mov (.t p72)), none⟩])
  (.seq (.ops [⟨some p73, (.mov (.t p6)), none⟩, ⟨some p74, (.p (.bin .neq .none (.t p73) (.c (.int .i64 0)))), none⟩])
  (.cond (.t p74) (.seq (.ops [⟨some p75, (.mov (.t p6)), none⟩, ⟨some p4, (.mov (.t p75)), none⟩])
  .ret) .skip)))
  (.seq (.ops [⟨some p76, (.mov (.t p0)), none⟩, ⟨some p77, (.r (.load (.many 6) (.t p3))), none⟩, ⟨some p78, (.c (.func 35 [(.t p76), (.t p77)])), none⟩])
  (.seq (.ops [⟨some p4, (.mov (.c (.int .i64 0))), none⟩])
  .ret))))))))), [(.tmp p4)]⟩
def d20 : DFn := ⟨29, (.seq (.ops [⟨some p2, (.mov (.c (.int .i64 0))), none⟩])
  (.seq (.seq (.ops [⟨some p4, (.mov (.t p0)), none⟩, ⟨some p5, (.c (.func 49 [(.t p4)])), none⟩, ⟨some p6, (.p (.un .not (.t p5))), none⟩])
  (.cond (.t p6) (.seq (.ops [⟨some p2, (.mov (.c (.int .i64 8))), none⟩])
  .ret) .skip))
  (.seq (.ops [⟨some p7, (.mov (.t p0)), none⟩, ⟨some p8, (.p (.nilCheck (.t p7))), none⟩, ⟨some p9, (.p (.fieldAddr 0 (.t p8))), none⟩, ⟨some p10, (.c (.func 50 [(.t p9)])), none⟩])
  (.seq (.ops [⟨some p11, (.mov (.t p0)), none⟩, ⟨some p12, (.p (.nilCheck (.t p11))), none⟩, ⟨some p13, (.p (.fieldAddr 0 (.t p12))), none⟩, ⟨none, (.defer (.func 51 [(.t p13)])), none⟩])
  (.seq (.ops [⟨some p14, (.mov (.t p0)), none⟩, ⟨some p15, (.p (.nilCheck (.t p14))), none⟩, ⟨some p16, (.p (.fieldAddr 2 (.t p15))), none⟩, ⟨some p17, (.r (.load .one (.t p16))), none⟩, ⟨some p18, (.c (.func 52 [(.t p17)])), none⟩, ⟨some p3, (.mov (.t p18)), none⟩])
  (.seq (.seq (.ops [⟨some p19, (.mov (.t p3)), none⟩, ⟨some p20, (.p (.bin .eql .none (.t p19) (.c (.int .i64 0)))), none⟩])
  (.cond (.t p20) (.ops [⟨some p21, (.mov (.t p0)), none⟩, ⟨some p22, (.mov (.t p0)), none⟩, ⟨some p23, (.p (.nilCheck (.t p22))), none⟩, ⟨some p24, (.p (.fieldAddr 4 (.t p23))), none⟩, ⟨some p25, (.r (.load .one (.t p24))), none⟩, ⟨some p26, (.p (.nilCheck (.t p21))), none⟩, ⟨some p27, (.p (.fieldAddr 5 (.t p26))), none⟩, ⟨none, (.e (.store 1 (.t p27) (.t p25))), none⟩]) .skip))
  (.seq (.ops [⟨some p28, (.mov (.t p3)), none⟩, ⟨some p2, (.mov (.t p28)), none⟩])
  .ret))))))), [(.tmp p2)]⟩
def d23 : DFn := ⟨26, (.seq (.ops [⟨some p4, (.mov (.c (.bool false))), none⟩])
  (.seq (.seq (.ops [⟨some p6, (.mov (.t p0)), none⟩, ⟨some p7, (.p (.lenSlice (.t p6))), none⟩, ⟨some p8, (.mov (.t p1)), none⟩, ⟨some p9, (.p (.lenSlice (.t p8))), none⟩, ⟨some p10, (.p (.bin .neq .none (.t p7) (.t p9))), none⟩])
  (.cond (.t p10) (.seq (.ops [⟨some p4, (.mov (.c (.bool false))), none⟩])
  .ret) .skip))
  (.seq (.seq (.ops [⟨some p11, (.mov (.t p0)), none⟩, ⟨some p12, (.p (.lenSlice (.t p11))), none⟩, ⟨some p13, (.mov (.c (.int .i64 0))), none⟩])
  (.block 0 (.loop (.seq (.ops [⟨some p14, (.p (.bin .lss .none (.t p13) (.t p12))), none⟩])
  (.seq (.cond (.t p14) .skip (.exit 0))
  (.seq (.block 1 (.seq (.ops [⟨some p15, (.mov (.t p13)), none⟩, ⟨some p5, (.mov (.t p15)), none⟩])
  (.seq (.draw [] [(⟨some p16, (.mov (.t p0)), none⟩, 0, 0), (⟨some p17, (.mov (.t p5)), none⟩, 0, 0), (⟨some p18, (.p (.indexAddr 2 (.t p16) (.t p17))), none⟩, 0, 0), (⟨some p19, (.r (.load (.many 2) (.t p18))), none⟩, 0, 0), (⟨some p20, (.mov (.t p1)), none⟩, 0, 0), (⟨some p21, (.mov (.t p5)), none⟩, 0, 0), (⟨some p22, (.p (.indexAddr 2 (.t p20) (.t p21))), none⟩, 0, 0), (⟨some p23, (.r (.load (.many 2) (.t p22))), none⟩, 0, 0), (⟨some p24, (.p (.bin .neq .none (.t p19) (.t p23))), none⟩, 0, 0)])
  (.cond (.t p24) (.seq (.ops [⟨some p4, (.mov (.c (.bool false))), none⟩])
  .ret) .skip))))
  (.ops [⟨some p25, (.p (.bin .add .none (.t p13) (.c (.int .i64 1)))), none⟩, ⟨some p13, (.mov (.t p25)), none⟩])))))))
  (.seq (.ops [⟨some p4, (.mov (.c (.bool true))), none⟩])
  .ret)))), [(.tmp p4)]⟩
def d30 : DFn := ⟨62, (.seq (.ops [⟨some p2, (.mov (.c .nilPtr)), none⟩, ⟨some p3, (.mov (.c (.int .i64 0))), none⟩])
  (.seq (.ops [⟨some p12, (.mov (.t p0)), none⟩, ⟨some p13, (.c (.func 77 [(.t p12)])), none⟩, ⟨some p11, (.mov (.t p13)), none⟩, ⟨some p14, (.p (.extract 0 (.t p11))), none⟩, ⟨some p15, (.p (.extract 1 (.t p11))), none⟩, ⟨some p4, (.mov (.t p14)), none⟩, ⟨some p5, (.mov (.t p15)), none⟩])
  (.seq (.seq (.ops [⟨some p16, (.mov (.t p5)), none⟩, ⟨some p17, (.p (.bin .neq .none (.t p16) (.c (.int .i64 0)))), none⟩])
  (.cond (.t p17) (.seq (.ops [⟨some p18, (.mov (.t p5)), none⟩, ⟨some p2, (.mov (.c .nilPtr)), none⟩, ⟨some p3, (.mov (.t p18)), none⟩])
  .ret) .skip))
  (.seq (.ops [⟨some p19, (.mov (.t p4)), none⟩, ⟨some p20, (.c (.func 78 [(.t p19), (.c (.int .i64 0))])), none⟩, ⟨some p6, (.mov (.t p20)), none⟩])
  (.seq (.ops [⟨some p21, (.mov (.t p6)), none⟩, ⟨some p22, (.c (.func 79 [(.t p21)])), none⟩, ⟨some p7, (.mov (.t p22)), none⟩])
  (.seq (.seq (.ops [⟨some p23, (.mov (.t p7)), none⟩, ⟨some p24, (.p (.bin .lss .none (.t p23) (.c (.int .i64 0)))), none⟩, ⟨some p25, (.mov (.t p24)), none⟩, ⟨some p26, (.mov (.t p4)), some (p25, true)⟩, ⟨some p27, (.c (.func 80 [(.t p26)])), some (p25, true)⟩, ⟨some p28, (.p (.bin .neq .none (.t p27) (.c (.int .i64 1)))), some (p25, true)⟩, ⟨some p29, (.p (.pick (.t p25) (.t p28) (.c (.bool false)))), none⟩])
  (.cond (.t p29) (.seq (.ops [⟨some p2, (.mov (.c .nilPtr)), none⟩, ⟨some p3, (.mov (.c (.int .i64 60))), none⟩])
  .ret) .skip))
  (.seq (.ops [⟨some p30, (.e .makeMap), none⟩, ⟨some p31, (.p (.build [(.int .i64 0), .nilMap, .nilMap, (.str [])] [(1, 1, (.t p30))])), none⟩, ⟨some p32, (.e (.box 164 (.t p31))), none⟩, ⟨some p8, (.mov (.t p32)), none⟩])
  (.seq (.seq (.ops [⟨some p33, (.mov (.t p6)), none⟩, ⟨some p34, (.mov (.t p7)), none⟩, ⟨some p35, (.p (.maxI (.t p34) (.c (.int .i64 0)))), none⟩, ⟨some p36, (.p (.slice 1 (.t p33) (some (.t p35)) none none)), none⟩, ⟨some p37, (.p (.lenSlice (.t p36))), none⟩, ⟨some p38, (.mov (.c (.int .i64 0))), none⟩])
  (.block 0 (.loop (.seq (.ops [⟨some p39, (.p (.bin .lss .none (.t p38) (.t p37))), none⟩])
  (.seq (.cond (.t p39) .skip (.exit 0))
  (.seq (.block 1 (.seq (.ops [⟨some p40, (.p (.indexAddr 1 (.t p36) (.t p38))), none⟩, ⟨some p41, (.r (.load .one (.t p40))), none⟩, ⟨some p10, (.mov (.t p41)), none⟩])
  (.seq (.ops [⟨some p42, (.mov (.t p8)), none⟩, ⟨some p43, (.mov (.t p10)), none⟩, ⟨some p44, (.c (.func 81 [(.t p42), (.t p43)])), none⟩, ⟨some p45, (.p (.un .not (.t p44))), none⟩])
  (.cond (.t p45) (.seq (.ops [⟨some p2, (.mov (.c .nilPtr)), none⟩, ⟨some p3, (.mov (.c (.int .i64 60))), none⟩])
  .ret) .skip))))
  (.ops [⟨some p46, (.p (.bin .add .none (.t p38) (.c (.int .i64 1)))), none⟩, ⟨some p38, (.mov (.t p46)), none⟩])))))))
  (.seq (.draw [] [(⟨some p47, (.mov (.t p4)), none⟩, 0, 0), (⟨some p48, (.mov (.t p8)), none⟩, 0, 0), (⟨some p49, (.p (.nilCheck (.t p48))), none⟩, 0, 0), (⟨some p50, (.p (.fieldAddr 1 (.t p49))), none⟩, 0, 0), (⟨some p51, (.r (.load .one (.t p50))), none⟩, 0, 0), (⟨some p52, (.mov (.t p8)), none⟩, 0, 0), (⟨some p53, (.p (.nilCheck (.t p52))), none⟩, 0, 0), (⟨some p54, (.p (.fieldAddr 0 (.t p53))), none⟩, 0, 0), (⟨some p55, (.r (.load .one (.t p54))), none⟩, 0, 0), (⟨some p56, (.mov (.t p8)), none⟩, 0, 0), (⟨some p57, (.p (.nilCheck (.t p56))), none⟩, 0, 0), (⟨some p58, (.p (.fieldAddr 0 (.t p57))), none⟩, 0, 0), (⟨some p59, (.r (.load .one (.t p58))), none⟩, 0, 0), (⟨some p60, (.p (.build [(.int .i32 0), (.int .u32 0), .nilPtr, .nilMap, (.int .i64 0), (.int .i64 0)] [(2, 1, (.t p47)), (3, 1, (.t p51)), (4, 1, (.t p55)), (5, 1, (.t p59))])), none⟩, 0, 0), (⟨some p61, (.e (.box 125 (.t p60))), none⟩, 0, 1), (⟨some p2, (.mov (.t p61)), none⟩, 1, 1), (⟨some p3, (.mov (.c (.int .i64 0))), none⟩, 1, 1)])
  .ret))))))))), [(.tmp p2), (.tmp p3)]⟩
def d31 : DFn := ⟨10, (.seq (.ops [⟨some p2, (.mov (.c (.int .i64 0))), none⟩])
  (.seq (.seq (.ops [⟨some p3, (.mov (.t p0)), none⟩, ⟨some p4, (.c (.func 49 [(.t p3)])), none⟩, ⟨some p5, (.p (.un .not (.t p4))), none⟩])
  (.cond (.t p5) (.seq (.ops [⟨some p2, (.mov (.c (.int .i64 0))), none⟩])
  .ret) .skip))
  (.seq (.ops [⟨some p6, (.mov (.t p0)), none⟩, ⟨some p7, (.p (.nilCheck (.t p6))), none⟩, ⟨some p8, (.p (.fieldAddr 4 (.t p7))), none⟩, ⟨some p9, (.r (.load .one (.t p8))), none⟩, ⟨some p2, (.mov (.t p9)), none⟩])
  .ret))), [(.tmp p2)]⟩
def d33 : DFn := ⟨14, (.seq (.ops [⟨some p2, (.mov (.c (.str []))), none⟩])
  (.seq (.ops [⟨some p4, (.mov (.t p0)), none⟩, ⟨some p5, (.c (.func 47 [(.t p4)])), none⟩, ⟨some p3, (.mov (.t p5)), none⟩])
  (.seq (.ops [⟨some p6, (.mov (.t p3)), none⟩, ⟨some p7, (.p (.lenStr (.t p6))), none⟩, ⟨some p8, (.p (.bin .sub .none (.c (.int .i64 13)) (.t p7))), none⟩, ⟨some p9, (.p (.maxI (.c (.int .i64 0)) (.t p8))), none⟩, ⟨some p10, (.c (.func 82 [(.c (.str [48])), (.t p9)])), none⟩, ⟨some p11, (.p (.bin .add .none (.c (.str [109, 47])) (.t p10))), none⟩, ⟨some p12, (.mov (.t p3)), none⟩, ⟨some p13, (.p (.bin .add .none (.t p11) (.t p12))), none⟩, ⟨some p2, (.mov (.t p13)), none⟩])
  .ret))), [(.tmp p2)]⟩
def d35 : DFn := ⟨49, (.seq (.ops [⟨some p3, (.e (.box 65 (.t p1))), none⟩, ⟨some p4, (.mov (.c (.bool false))), none⟩])
  (.seq (.seq (.draw [] [(⟨some p5, (.p (.fieldAddr 1 (.t p3))), none⟩, 0, 0), (⟨some p6, (.r (.load .one (.t p5))), none⟩, 0, 0), (⟨some p7, (.mov (.t p0)), none⟩, 0, 0), (⟨some p8, (.p (.nilCheck (.t p7))), none⟩, 0, 0), (⟨some p9, (.p (.fieldAddr 3 (.t p8))), none⟩, 0, 0), (⟨some p10, (.r (.load .one (.t p9))), none⟩, 0, 0), (⟨some p11, (.p (.fieldAddr 0 (.t p3))), none⟩, 0, 0), (⟨some p12, (.r (.load .one (.t p11))), none⟩, 0, 0), (⟨some p13, (.r (.lookup .str (.int .i64 0) false (.t p10) (.t p12))), none⟩, 0, 0), (⟨some p14, (.p (.bin .add .none (.t p13) (.c (.int .i64 1)))), none⟩, 0, 0), (⟨some p15, (.p (.bin .neq .none (.t p6) (.t p14))), none⟩, 0, 0)])
  (.cond (.t p15) (.seq (.ops [⟨some p4, (.mov (.c (.bool false))), none⟩])
  .ret) .skip))
  (.seq (.draw [] [(⟨some p17, (.mov (.t p0)), none⟩, 0, 1), (⟨some p18, (.mov (.t p0)), none⟩, 0, 0), (⟨some p19, (.p (.nilCheck (.t p18))), none⟩, 0, 0), (⟨some p20, (.p (.fieldAddr 2 (.t p19))), none⟩, 0, 0), (⟨some p21, (.r (.load .one (.t p20))), none⟩, 0, 0), (⟨some p22, (.p (.fieldAddr 0 (.t p3))), none⟩, 0, 0), (⟨some p23, (.r (.load .one (.t p22))), none⟩, 0, 0), (⟨some p24, (.p (.fieldAddr 2 (.t p3))), none⟩, 0, 0), (⟨some p25, (.r (.load (.many 4) (.t p24))), none⟩, 0, 0), (⟨some p26, (.c (.func 86 [(.t p21), (.t p23), (.t p25)])), none⟩, 0, 1), (⟨some p16, (.mov (.t p26)), none⟩, 1, 1), (⟨some p27, (.p (.extract 0 (.t p16))), none⟩, 1, 1), (⟨some p28, (.p (.extract 1 (.t p16))), none⟩, 1, 2), (⟨some p29, (.p (.nilCheck (.t p17))), none⟩, 1, 1), (⟨some p30, (.p (.fieldAddr 2 (.t p29))), none⟩, 1, 1), (⟨none, (.e (.store 1 (.t p30) (.t p27))), none⟩, 1, 2)])
  (.seq (.draw [] [(⟨some p31, (.mov (.t p0)), none⟩, 0, 2), (⟨some p32, (.mov (.t p0)), none⟩, 0, 1), (⟨some p33, (.p (.nilCheck (.t p32))), none⟩, 0, 1), (⟨some p34, (.p (.fieldAddr 1 (.t p33))), none⟩, 0, 1), (⟨some p35, (.r (.load .one (.t p34))), none⟩, 0, 1), (⟨some p36, (.r (.load (.many 6) (.t p3))), none⟩, 0, 0), (⟨some p37, (.e (.buildSlice 65 6 1 [(.str []), (.int .i64 0), (.int .i64 0), (.str []), (.str []), (.str [])] [(0, (.t p36))])), none⟩, 0, 1), (⟨some p38, (.e (.append 65 6 80 (.t p35) (.t p37))), none⟩, 1, 2), (⟨some p39, (.p (.nilCheck (.t p31))), none⟩, 2, 2), (⟨some p40, (.p (.fieldAddr 1 (.t p39))), none⟩, 2, 2), (⟨none, (.e (.store 1 (.t p40) (.t p38))), none⟩, 2, 3)])
  (.seq (.draw [] [(⟨some p41, (.mov (.t p0)), none⟩, 0, 0), (⟨some p42, (.p (.nilCheck (.t p41))), none⟩, 0, 0), (⟨some p43, (.p (.fieldAddr 3 (.t p42))), none⟩, 0, 0), (⟨some p44, (.r (.load .one (.t p43))), none⟩, 0, 0), (⟨some p45, (.p (.fieldAddr 0 (.t p3))), none⟩, 0, 0), (⟨some p46, (.r (.load .one (.t p45))), none⟩, 0, 0), (⟨some p47, (.p (.fieldAddr 1 (.t p3))), none⟩, 0, 0), (⟨some p48, (.r (.load .one (.t p47))), none⟩, 0, 0), (⟨none, (.e (.mapUpdate .str (.t p44) (.t p46) (.t p48))), none⟩, 0, 1)])
  (.seq (.ops [⟨some p4, (.mov (.c (.bool true))), none⟩])
  .ret)))))), [(.tmp p4)]⟩
def d36 : DFn := ⟨69, (.seq (.ops [⟨some p2, (.mov (.c .nilMap)), none⟩])
  (.seq (.ops [⟨some p12, (.e .makeMap), none⟩, ⟨some p3, (.mov (.t p12)), none⟩])
  (.seq (.seq (.ops [⟨some p13, (.mov (.t p0)), none⟩, ⟨some p14, (.p (.nilCheck (.t p13))), none⟩, ⟨some p15, (.p (.fieldAddr 1 (.t p14))), none⟩, ⟨some p16, (.r (.load .one (.t p15))), none⟩, ⟨some p17, (.p (.lenSlice (.t p16))), none⟩, ⟨some p18, (.mov (.c (.int .i64 0))), none⟩])
  (.block 0 (.loop (.seq (.ops [⟨some p19, (.p (.bin .lss .none (.t p18) (.t p17))), none⟩])
  (.seq (.cond (.t p19) .skip (.exit 0))
  (.seq (.block 1 (.seq (.ops [⟨some p20, (.mov (.t p18)), none⟩, ⟨some p21, (.p (.indexAddr 6 (.t p16) (.t p18))), none⟩, ⟨some p22, (.r (.load (.many 6) (.t p21))), none⟩, ⟨some p5, (.e (.alloc 65 [(.str []), (.int .i64 0), (.int .i64 0), (.str []), (.str []), (.str [])])), none⟩, ⟨some p4, (.mov (.t p20)), none⟩, ⟨none, (.e (.store 6 (.t p5) (.t p22))), none⟩])
  (.seq (.ops [⟨some p24, (.r (.load (.many 6) (.t p5))), none⟩, ⟨some p25, (.c (.func 45 [(.t p24)])), none⟩, ⟨some p23, (.mov (.t p25)), none⟩, ⟨some p26, (.p (.extract 0 (.t p23))), none⟩, ⟨some p27, (.p (.extract 1 (.t p23))), none⟩, ⟨some p6, (.mov (.t p26)), none⟩, ⟨some p7, (.mov (.t p27)), none⟩])
  (.ops [⟨some p28, (.mov (.t p3)), none⟩, ⟨some p29, (.mov (.t p4)), none⟩, ⟨some p30, (.p (.bin .add .none (.t p29) (.c (.int .i64 1)))), none⟩, ⟨some p31, (.c (.func 33 [(.t p30)])), none⟩, ⟨some p32, (.mov (.t p6)), none⟩, ⟨some p33, (.p (.build [(.str []), (.str [])] [(1, 1, (.t p32))])), none⟩, ⟨none, (.e (.mapUpdate .str (.t p28) (.t p31) (.t p33))), none⟩]))))
  (.ops [⟨some p34, (.p (.bin .add .none (.t p18) (.c (.int .i64 1)))), none⟩, ⟨some p18, (.mov (.t p34)), none⟩])))))))
  (.seq (.seq (.ops [⟨some p35, (.mov (.t p0)), none⟩, ⟨some p36, (.p (.nilCheck (.t p35))), none⟩, ⟨some p37, (.p (.fieldAddr 3 (.t p36))), none⟩, ⟨some p38, (.r (.load .one (.t p37))), none⟩, ⟨some p39, (.e (.rangeMap (.t p38))), none⟩])
  (.block 2 (.loop (.seq (.ops [⟨some p40, (.e (.next (.t p39))), none⟩, ⟨some p41, (.p (.extract 0 (.t p40))), none⟩])
  (.seq (.cond (.t p41) .skip (.exit 2))
  (.block 3 (.seq (.ops [⟨some p42, .stuck, none⟩, ⟨some p43, (.p (.extract 0 (.t p42))), none⟩, ⟨some p44, (.p (.extract 1 (.t p42))), none⟩, ⟨some p8, (.mov (.t p43)), none⟩, ⟨some p9, (.mov (.t p44)), none⟩])
  (.ops [⟨some p45, (.mov (.t p3)), none⟩, ⟨some p46, (.mov (.t p8)), none⟩, ⟨some p47, (.p (.bin .add .none (.c (.str [110, 47])) (.t p46))), none⟩, ⟨some p48, (.mov (.t p9)), none⟩, ⟨some p49, (.c (.func 47 [(.t p48)])), none⟩, ⟨some p50, (.p (.build [(.str []), (.str [])] [(1, 1, (.t p49))])), none⟩, ⟨none, (.e (.mapUpdate .str (.t p45) (.t p47) (.t p50))), none⟩]))))))))
  (.seq (.seq (.ops [⟨some p51, (.mov (.t p0)), none⟩, ⟨some p52, (.p (.nilCheck (.t p51))), none⟩, ⟨some p53, (.p (.fieldAddr 2 (.t p52))), none⟩, ⟨some p54, (.r (.load .one (.t p53))), none⟩, ⟨some p55, (.p (.lenSlice (.t p54))), none⟩, ⟨some p56, (.mov (.c (.int .i64 0))), none⟩])
  (.block 4 (.loop (.seq (.ops [⟨some p57, (.p (.bin .lss .none (.t p56) (.t p55))), none⟩])
  (.seq (.cond (.t p57) .skip (.exit 4))
  (.seq (.block 5 (.seq (.ops [⟨some p58, (.p (.indexAddr 2 (.t p54) (.t p56))), none⟩, ⟨some p59, (.r (.load (.many 2) (.t p58))), none⟩, ⟨some p11, (.e (.alloc 95 [(.str []), (.str [])])), none⟩, ⟨none, (.e (.store 2 (.t p11) (.t p59))), none⟩])
  (.ops [⟨some p60, (.mov (.t p3)), none⟩, ⟨some p61, (.p (.fieldAddr 0 (.t p11))), none⟩, ⟨some p62, (.r (.load .one (.t p61))), none⟩, ⟨some p63, (.p (.bin .add .none (.c (.str [100, 47])) (.t p62))), none⟩, ⟨some p64, (.p (.fieldAddr 1 (.t p11))), none⟩, ⟨some p65, (.r (.load .one (.t p64))), none⟩, ⟨some p66, (.p (.build [(.str []), (.str [])] [(1, 1, (.t p65))])), none⟩, ⟨none, (.e (.mapUpdate .str (.t p60) (.t p63) (.t p66))), none⟩])))
  (.ops [⟨some p67, (.p (.bin .add .none (.t p56) (.c (.int .i64 1)))), none⟩, ⟨some p56, (.mov (.t p67)), none⟩])))))))
  (.seq (.ops [⟨some p68, (.mov (.t p3)), none⟩, ⟨some p2, (.mov (.t p68)), none⟩])
  .ret)))))), [(.tmp p2)]⟩
def d37 : DFn := ⟨10, (.seq (.ops [⟨some p4, (.e (.box 9 (.t p1))), none⟩, ⟨some p5, (.e (.box 9 (.t p2))), none⟩, ⟨some p6, (.mov (.c (.nilSlice 0))), none⟩])
  (.seq (.ops [⟨some p7, (.mov (.t p0)), none⟩, ⟨some p8, (.p (.mkFunc 88 [] [(.t p4), (.t p5)])), none⟩, ⟨some p9, (.c (.func 87 [(.t p7), (.t p8)])), none⟩, ⟨some p6, (.mov (.t p9)), none⟩])
  .ret)), [(.tmp p6)]⟩
def d38 : DFn := ⟨31, (.seq (.ops [⟨some p2, (.mov (.c .nilPtr)), none⟩, ⟨some p3, (.mov (.c .nilPtr)), none⟩, ⟨some p4, (.mov (.c (.bool false))), none⟩])
  (.seq (.ops [⟨some p10, (.mov (.t p0)), none⟩, ⟨some p11, (.c (.func 89 [(.t p10)])), none⟩, ⟨some p9, (.mov (.t p11)), none⟩, ⟨some p12, (.p (.extract 0 (.t p9))), none⟩, ⟨some p13, (.p (.extract 1 (.t p9))), none⟩, ⟨some p5, (.mov (.t p12)), none⟩, ⟨some p6, (.mov (.t p13)), none⟩])
  (.seq (.ops [⟨some p15, (.mov (.t p5)), none⟩, ⟨some p16, (.c (.func 15 [(.t p15)])), none⟩, ⟨some p14, (.mov (.t p16)), none⟩, ⟨some p17, (.p (.extract 0 (.t p14))), none⟩, ⟨some p18, (.p (.extract 1 (.t p14))), none⟩, ⟨some p7, (.mov (.t p17)), none⟩, ⟨some p8, (.mov (.t p18)), none⟩])
  (.seq (.ops [⟨some p19, (.mov (.t p5)), none⟩, ⟨some p20, (.mov (.t p7)), none⟩, ⟨some p21, (.mov (.t p6)), none⟩, ⟨some p22, (.p (.bin .eql .none (.t p21) (.c (.int .i64 0)))), none⟩, ⟨some p23, (.mov (.t p22)), none⟩, ⟨some p24, (.mov (.t p8)), some (p23, true)⟩, ⟨some p25, (.p (.bin .eql .none (.t p24) (.c (.int .i64 0)))), some (p23, true)⟩, ⟨some p26, (.p (.pick (.t p23) (.t p25) (.c (.bool false)))), none⟩, ⟨some p27, (.mov (.t p26)), none⟩, ⟨some p28, (.mov (.t p7)), some (p27, true)⟩, ⟨some p29, (.p (.bin .neq .ptr (.t p28) (.c .nilPtr))), some (p27, true)⟩, ⟨some p30, (.p (.pick (.t p27) (.t p29) (.c (.bool false)))), none⟩, ⟨some p2, (.mov (.t p19)), none⟩, ⟨some p3, (.mov (.t p20)), none⟩, ⟨some p4, (.mov (.t p30)), none⟩])
  .ret)))), [(.tmp p2), (.tmp p3), (.tmp p4)]⟩
def d39 : DFn := ⟨9, (.seq (.ops [⟨some p2, (.e (.alloc 24 [(.int .i64 0), (.str []), (.int .i64 0), (.int .i64 0), (.int .i64 0), (.int .i64 0), (.nilSlice 0)])), none⟩])
  (.seq (.ops [⟨some p3, (.mov (.t p0)), none⟩, ⟨some p4, (.mov (.t p0)), none⟩, ⟨some p5, (.p (.build [(.int .i64 0), (.str []), (.str []), (.str [])] [(0, 1, (.c (.int .i64 1))), (1, 1, (.c (.str [97]))), (3, 1, (.c (.str [116])))])), none⟩, ⟨some p6, (.p (.build [(.str []), (.int .i64 0), (.int .i64 0), (.str []), (.str []), (.str [])] [(0, 1, (.t p4)), (1, 1, (.c (.int .i64 1))), (2, 4, (.t p5))])), none⟩, ⟨some p7, (.e (.buildSlice 65 6 1 [(.str []), (.int .i64 0), (.int .i64 0), (.str []), (.str []), (.str [])] [(0, (.t p6))])), none⟩, ⟨some p8, (.p (.build [(.int .i64 0), (.str []), (.int .i64 0), (.int .i64 0), (.int .i64 0), (.int .i64 0), (.nilSlice 0)] [(0, 1, (.c (.int .i64 1))), (1, 1, (.t p3)), (6, 1, (.t p7))])), none⟩, ⟨none, (.e (.store 7 (.t p2) (.t p8))), none⟩])
  .ret)), [(.cell p2 (.many 7))]⟩
def d40 : DFn := ⟨50, (.seq (.ops [⟨some p1, (.e (.box 24 (.t p0))), none⟩, ⟨some p2, (.mov (.c (.bool false))), none⟩])
  (.seq (.seq (.ops [⟨some p5, (.p (.fieldAddr 6 (.t p1))), none⟩, ⟨some p6, (.r (.load .one (.t p5))), none⟩, ⟨some p7, (.p (.lenSlice (.t p6))), none⟩, ⟨some p8, (.mov (.c (.int .i64 0))), none⟩])
  (.block 0 (.loop (.seq (.ops [⟨some p9, (.p (.bin .lss .none (.t p8) (.t p7))), none⟩])
  (.seq (.cond (.t p9) .skip (.exit 0))
  (.seq (.block 1 (.seq (.ops [⟨some p10, (.mov (.t p8)), none⟩, ⟨some p11, (.p (.indexAddr 6 (.t p6) (.t p8))), none⟩, ⟨some p12, (.r (.load (.many 6) (.t p11))), none⟩, ⟨some p4, (.e (.alloc 65 [(.str []), (.int .i64 0), (.int .i64 0), (.str []), (.str []), (.str [])])), none⟩, ⟨some p3, (.mov (.t p10)), none⟩, ⟨none, (.e (.store 6 (.t p4) (.t p12))), none⟩])
  (.seq (.draw [] [(⟨some p13, (.p (.fieldAddr 0 (.t p4))), none⟩, 0, 0), (⟨some p14, (.r (.load .one (.t p13))), none⟩, 0, 0), (⟨some p15, (.p (.fieldAddr 1 (.t p1))), none⟩, 0, 0), (⟨some p16, (.r (.load .one (.t p15))), none⟩, 0, 0), (⟨some p17, (.p (.bin .neq .none (.t p14) (.t p16))), none⟩, 0, 0), (⟨some p18, (.mov (.t p17)), none⟩, 0, 0), (⟨some p19, (.mov (.t p3)), some (p18, false)⟩, 0, 0), (⟨some p20, (.p (.bin .gtr .none (.t p19) (.c (.int .i64 0)))), some (p18, false)⟩, 0, 0), (⟨some p21, (.mov (.t p20)), some (p18, false)⟩, 0, 0), (⟨some p22, (.p (.fieldAddr 1 (.t p4))), some (p21, true)⟩, 0, 0), (⟨some p23, (.r (.load .one (.t p22))), some (p21, true)⟩, 0, 0), (⟨some p24, (.p (.bin .sub .none (.t p23) (.c (.int .i64 1)))), some (p21, true)⟩, 0, 0), (⟨some p25, (.p (.fieldAddr 6 (.t p1))), some (p21, true)⟩, 0, 0), (⟨some p26, (.r (.load .one (.t p25))), some (p21, true)⟩, 0, 0), (⟨some p27, (.mov (.t p3)), some (p21, true)⟩, 0, 0), (⟨some p28, (.p (.bin .sub .none (.t p27) (.c (.int .i64 1)))), some (p21, true)⟩, 0, 0), (⟨some p29, (.p (.indexAddr 6 (.t p26) (.t p28))), some (p21, true)⟩, 0, 0), (⟨some p30, (.p (.fieldAddr 1 (.t p29))), some (p21, true)⟩, 0, 0), (⟨some p31, (.r (.load .one (.t p30))), some (p21, true)⟩, 0, 0), (⟨some p32, (.p (.bin .neq .none (.t p24) (.t p31))), some (p21, true)⟩, 0, 0), (⟨some p33, (.p (.pick (.t p21) (.t p32) (.c (.bool false)))), some (p18, false)⟩, 0, 0), (⟨some p34, (.p (.pick (.t p18) (.c (.bool true)) (.t p33))), none⟩, 0, 0)])
  (.cond (.t p34) (.seq (.ops [⟨some p2, (.mov (.c (.bool false))), none⟩])
  .ret) .skip))))
  (.ops [⟨some p35, (.p (.bin .add .none (.t p8) (.c (.int .i64 1)))), none⟩, ⟨some p8, (.mov (.t p35)), none⟩])))))))
  (.seq (.ops [⟨some p36, (.p (.fieldAddr 1 (.t p1))), none⟩, ⟨some p37, (.r (.load .one (.t p36))), none⟩, ⟨some p38, (.c (.func 42 [(.t p37)])), none⟩, ⟨some p39, (.mov (.t p38)), none⟩, ⟨some p40, (.p (.fieldAddr 6 (.t p1))), some (p39, true)⟩, ⟨some p41, (.r (.load .one (.t p40))), some (p39, true)⟩, ⟨some p42, (.p (.lenSlice (.t p41))), some (p39, true)⟩, ⟨some p43, (.p (.bin .gtr .none (.t p42) (.c (.int .i64 0)))), some (p39, true)⟩, ⟨some p44, (.p (.pick (.t p39) (.t p43) (.c (.bool false)))), none⟩, ⟨some p45, (.mov (.t p44)), none⟩, ⟨some p46, (.p (.fieldAddr 6 (.t p1))), some (p45, true)⟩, ⟨some p47, (.r (.load .one (.t p46))), some (p45, true)⟩, ⟨some p48, (.c (.func 43 [(.t p47)])), some (p45, true)⟩, ⟨some p49, (.p (.pick (.t p45) (.t p48) (.c (.bool false)))), none⟩, ⟨some p2, (.mov (.t p49)), none⟩])
  .ret))), [(.tmp p2)]⟩
def d42 : DFn := ⟨54, (.seq (.ops [⟨some p2, (.mov (.c (.bool false))), none⟩])
  (.seq (.seq (.ops [⟨some p5, (.mov (.t p0)), none⟩, ⟨some p6, (.e (.strBytes 5 (.t p5))), none⟩, ⟨some p7, (.p (.lenSlice (.t p6))), none⟩, ⟨some p8, (.mov (.c (.int .i64 0))), none⟩])
  (.block 0 (.loop (.seq (.ops [⟨some p9, (.p (.bin .lss .none (.t p8) (.t p7))), none⟩])
  (.seq (.cond (.t p9) .skip (.exit 0))
  (.seq (.block 1 (.seq (.ops [⟨some p10, (.p (.indexAddr 1 (.t p6) (.t p8))), none⟩, ⟨some p11, (.r (.load .one (.t p10))), none⟩, ⟨some p4, (.mov (.t p11)), none⟩])
  (.seq (.ops [⟨some p12, (.mov (.t p4)), none⟩, ⟨some p13, (.p (.bin .neq .none (.t p12) (.c (.int .u8 46)))), none⟩, ⟨some p14, (.mov (.t p13)), none⟩, ⟨some p15, (.mov (.t p4)), some (p14, true)⟩, ⟨some p16, (.p (.bin .neq .none (.t p15) (.c (.int .u8 45)))), some (p14, true)⟩, ⟨some p17, (.p (.pick (.t p14) (.t p16) (.c (.bool false)))), none⟩, ⟨some p18, (.mov (.t p17)), none⟩, ⟨some p19, (.mov (.t p4)), some (p18, true)⟩, ⟨some p20, (.p (.bin .neq .none (.t p19) (.c (.int .u8 95)))), some (p18, true)⟩, ⟨some p21, (.p (.pick (.t p18) (.t p20) (.c (.bool false)))), none⟩, ⟨some p22, (.mov (.t p21)), none⟩, ⟨some p23, (.mov (.t p4)), some (p22, true)⟩, ⟨some p24, (.p (.bin .lss .none (.t p23) (.c (.int .u8 48)))), some (p22, true)⟩, ⟨some p25, (.mov (.t p24)), some (p22, true)⟩, ⟨some p26, (.mov (.t p4)), some (p25, false)⟩, ⟨some p27, (.p (.bin .gtr .none (.t p26) (.c (.int .u8 57)))), some (p25, false)⟩, ⟨some p28, (.p (.pick (.t p25) (.c (.bool true)) (.t p27))), some (p22, true)⟩, ⟨some p29, (.p (.pick (.t p22) (.t p28) (.c (.bool false)))), none⟩, ⟨some p30, (.mov (.t p29)), none⟩, ⟨some p31, (.mov (.t p4)), some (p30, true)⟩, ⟨some p32, (.p (.bin .lss .none (.t p31) (.c (.int .u8 97)))), some (p30, true)⟩, ⟨some p33, (.mov (.t p32)), some (p30, true)⟩, ⟨some p34, (.mov (.t p4)), some (p33, false)⟩, ⟨some p35, (.p (.bin .gtr .none (.t p34) (.c (.int .u8 122)))), some (p33, false)⟩, ⟨some p36, (.p (.pick (.t p33) (.c (.bool true)) (.t p35))), some (p30, true)⟩, ⟨some p37, (.p (.pick (.t p30) (.t p36) (.c (.bool false)))), none⟩, ⟨some p38, (.mov (.t p37)), none⟩, ⟨some p39, (.mov (.t p4)), some (p38, true)⟩, ⟨some p40, (.p (.bin .lss .none (.t p39) (.c (.int .u8 65)))), some (p38, true)⟩, ⟨some p41, (.mov (.t p40)), some (p38, true)⟩, ⟨some p42, (.mov (.t p4)), some (p41, false)⟩, ⟨some p43, (.p (.bin .gtr .none (.t p42) (.c (.int .u8 90)))), some (p41, false)⟩, ⟨some p44, (.p (.pick (.t p41) (.c (.bool true)) (.t p43))), some (p38, true)⟩, ⟨some p45, (.p (.pick (.t p38) (.t p44) (.c (.bool false)))), none⟩])
  (.cond (.t p45) (.seq (.ops [⟨some p2, (.mov (.c (.bool false))), none⟩])
  .ret) .skip))))
  (.ops [⟨some p46, (.p (.bin .add .none (.t p8) (.c (.int .i64 1)))), none⟩, ⟨some p8, (.mov (.t p46)), none⟩])))))))
  (.seq (.ops [⟨some p47, (.mov (.t p0)), none⟩, ⟨some p48, (.p (.bin .neq .none (.t p47) (.c (.str [])))), none⟩, ⟨some p49, (.mov (.t p48)), none⟩, ⟨some p50, (.mov (.t p0)), some (p49, true)⟩, ⟨some p51, (.p (.lenStr (.t p50))), some (p49, true)⟩, ⟨some p52, (.p (.bin .leq .none (.t p51) (.c (.int .i64 24)))), some (p49, true)⟩, ⟨some p53, (.p (.pick (.t p49) (.t p52) (.c (.bool false)))), none⟩, ⟨some p2, (.mov (.t p53)), none⟩])
  .ret))), [(.tmp p2)]⟩
def d43 : DFn := ⟨18, (.seq (.ops [⟨some p2, (.mov (.c (.bool false))), none⟩])
  (.seq (.seq (.ops [⟨some p5, (.mov (.t p0)), none⟩, ⟨some p6, (.p (.lenSlice (.t p5))), none⟩, ⟨some p7, (.mov (.c (.int .i64 0))), none⟩])
  (.block 0 (.loop (.seq (.ops [⟨some p8, (.p (.bin .lss .none (.t p7) (.t p6))), none⟩])
  (.seq (.cond (.t p8) .skip (.exit 0))
  (.seq (.block 1 (.seq (.ops [⟨some p9, (.p (.indexAddr 6 (.t p5) (.t p7))), none⟩, ⟨some p10, (.r (.load (.many 6) (.t p9))), none⟩, ⟨some p4, (.e (.alloc 65 [(.str []), (.int .i64 0), (.int .i64 0), (.str []), (.str []), (.str [])])), none⟩, ⟨none, (.e (.store 6 (.t p4) (.t p10))), none⟩])
  (.seq (.ops [⟨some p11, (.r (.load (.many 6) (.t p4))), none⟩, ⟨some p12, (.c (.func 85 [(.t p11)])), none⟩, ⟨some p13, (.p (.un .not (.t p12))), none⟩])
  (.cond (.t p13) (.seq (.ops [⟨some p2, (.mov (.c (.bool false))), none⟩])
  .ret) .skip))))
  (.ops [⟨some p14, (.p (.bin .add .none (.t p7) (.c (.int .i64 1)))), none⟩, ⟨some p7, (.mov (.t p14)), none⟩])))))))
  (.seq (.ops [⟨some p15, (.mov (.t p0)), none⟩, ⟨some p16, (.p (.lenSlice (.t p15))), none⟩, ⟨some p17, (.p (.bin .leq .none (.t p16) (.c (.int .i64 8)))), none⟩, ⟨some p2, (.mov (.t p17)), none⟩])
  .ret))), [(.tmp p2)]⟩
def d44 : DFn := ⟨32, (.seq (.ops [⟨some p1, (.e (.box 24 (.t p0))), none⟩, ⟨some p2, (.mov (.c (.bool false))), none⟩])
  (.seq (.ops [⟨some p3, (.p (.fieldAddr 1 (.t p1))), none⟩, ⟨some p4, (.r (.load .one (.t p3))), none⟩, ⟨some p5, (.p (.bin .eql .none (.t p4) (.c (.str [])))), none⟩, ⟨some p6, (.mov (.t p5)), none⟩, ⟨some p7, (.p (.fieldAddr 2 (.t p1))), some (p6, true)⟩, ⟨some p8, (.r (.load .one (.t p7))), some (p6, true)⟩, ⟨some p9, (.p (.bin .eql .none (.t p8) (.c (.int .i64 0)))), some (p6, true)⟩, ⟨some p10, (.p (.pick (.t p6) (.t p9) (.c (.bool false)))), none⟩, ⟨some p11, (.mov (.t p10)), none⟩, ⟨some p12, (.p (.fieldAddr 3 (.t p1))), some (p11, true)⟩, ⟨some p13, (.r (.load .one (.t p12))), some (p11, true)⟩, ⟨some p14, (.p (.bin .eql .none (.t p13) (.c (.int .i64 0)))), some (p11, true)⟩, ⟨some p15, (.p (.pick (.t p11) (.t p14) (.c (.bool false)))), none⟩, ⟨some p16, (.mov (.t p15)), none⟩, ⟨some p17, (.p (.fieldAddr 4 (.t p1))), some (p16, true)⟩, ⟨some p18, (.r (.load .one (.t p17))), some (p16, true)⟩, ⟨some p19, (.p (.bin .eql .none (.t p18) (.c (.int .i64 0)))), some (p16, true)⟩, ⟨some p20, (.p (.pick (.t p16) (.t p19) (.c (.bool false)))), none⟩, ⟨some p21, (.mov (.t p20)), none⟩, ⟨some p22, (.p (.fieldAddr 5 (.t p1))), some (p21, true)⟩, ⟨some p23, (.r (.load .one (.t p22))), some (p21, true)⟩, ⟨some p24, (.p (.bin .eql .none (.t p23) (.c (.int .i64 0)))), some (p21, true)⟩, ⟨some p25, (.p (.pick (.t p21) (.t p24) (.c (.bool false)))), none⟩, ⟨some p26, (.mov (.t p25)), none⟩, ⟨some p27, (.p (.fieldAddr 6 (.t p1))), some (p26, true)⟩, ⟨some p28, (.r (.load .one (.t p27))), some (p26, true)⟩, ⟨some p29, (.p (.lenSlice (.t p28))), some (p26, true)⟩, ⟨some p30, (.p (.bin .eql .none (.t p29) (.c (.int .i64 0)))), some (p26, true)⟩, ⟨some p31, (.p (.pick (.t p26) (.t p30) (.c (.bool false)))), none⟩, ⟨some p2, (.mov (.t p31)), none⟩])
  .ret)), [(.tmp p2)]⟩
def d45 : DFn := ⟨12, (.seq (.ops [⟨some p1, (.e (.box 65 (.t p0))), none⟩, ⟨some p2, (.mov (.c (.str []))), none⟩, ⟨some p3, (.mov (.c (.int .i64 0))), none⟩])
  (.seq (.seq (.ops [⟨some p4, (.r (.load (.many 6) (.t p1))), none⟩, ⟨some p5, (.c (.func 85 [(.t p4)])), none⟩, ⟨some p6, (.p (.un .not (.t p5))), none⟩])
  (.cond (.t p6) (.seq (.ops [⟨some p2, (.mov (.c (.str []))), none⟩, ⟨some p3, (.mov (.c (.int .i64 130))), none⟩])
  .ret) .skip))
  (.seq (.ops [⟨some p7, (.r (.load (.many 6) (.t p1))), none⟩, ⟨some p8, (.c (.func 91 [(.t p7)])), none⟩, ⟨some p9, (.c (.func 90 [(.t p8)])), none⟩, ⟨some p10, (.p (.extract 0 (.t p9))), none⟩, ⟨some p11, (.p (.extract 1 (.t p9))), none⟩, ⟨some p2, (.mov (.t p10)), none⟩, ⟨some p3, (.mov (.t p11)), none⟩])
  .ret))), [(.tmp p2), (.tmp p3)]⟩
def d46 : DFn := ⟨80, (.seq (.ops [⟨some p5, (.e (.box 63 (.t p2))), none⟩, ⟨some p6, (.mov (.c (.nilSlice 0))), none⟩, ⟨some p7, (.mov (.c .nilIface)), none⟩])
  (.seq (.seq (.ops [⟨some p12, (.mov (.t p1)), none⟩, ⟨some p13, (.c (.func 42 [(.t p12)])), none⟩, ⟨some p14, (.p (.un .not (.t p13))), none⟩])
  (.cond (.t p14) (.seq (.ops [⟨some p15, (.c (.func 92 [(.c (.int .i64 0)), (.c (.int .i64 6))])), none⟩, ⟨some p6, (.mov (.c (.nilSlice 0))), none⟩, ⟨some p7, (.mov (.t p15)), none⟩])
  .ret) .skip))
  (.seq (.seq (.ops [⟨some p16, (.r (.load (.many 4) (.t p5))), none⟩, ⟨some p17, (.c (.func 93 [(.t p16)])), none⟩, ⟨some p8, (.mov (.t p17)), none⟩])
  (.seq (.ops [⟨some p18, (.mov (.t p8)), none⟩, ⟨some p19, (.p (.bin .geq .none (.t p18) (.c (.int .i64 0)))), none⟩])
  (.cond (.t p19) (.seq (.ops [⟨some p20, (.mov (.t p8)), none⟩, ⟨some p21, (.c (.func 92 [(.t p20), (.c (.int .i64 110))])), none⟩, ⟨some p6, (.mov (.c (.nilSlice 0))), none⟩, ⟨some p7, (.mov (.t p21)), none⟩])
  .ret) .skip)))
  (.seq (.ops [⟨some p22, (.mov (.t p0)), none⟩, ⟨some p23, (.c (.func 94 [(.t p22)])), none⟩, ⟨some p9, (.mov (.t p23)), none⟩])
  (.seq (.seq (.ops [⟨some p24, (.p (.fieldAddr 0 (.t p5))), none⟩, ⟨some p25, (.r (.load .one (.t p24))), none⟩, ⟨some p26, (.p (.bin .eql .none (.t p25) (.c (.int .i64 1)))), none⟩])
  (.cond (.t p26) (.seq (.ops [⟨some p27, (.mov (.t p9)), none⟩, ⟨some p28, (.r (.load (.many 4) (.t p5))), none⟩, ⟨some p29, (.c (.func 95 [(.t p27), (.t p28)])), none⟩, ⟨some p30, (.p (.extract 0 (.t p29))), none⟩, ⟨some p31, (.p (.extract 1 (.t p29))), none⟩, ⟨some p6, (.mov (.t p30)), none⟩, ⟨some p7, (.mov (.t p31)), none⟩])
  .ret) .skip))
  (.seq (.ops [⟨some p33, (.mov (.t p9)), none⟩, ⟨some p34, (.p (.fieldAddr 1 (.t p5))), none⟩, ⟨some p35, (.r (.load .one (.t p34))), none⟩, ⟨some p36, (.c (.func 96 [(.t p33), (.t p35)])), none⟩, ⟨some p32, (.mov (.t p36)), none⟩, ⟨some p37, (.p (.extract 0 (.t p32))), none⟩, ⟨some p38, (.p (.extract 1 (.t p32))), none⟩, ⟨some p10, (.e (.alloc 190 [(.str []), (.str []), (.str [])])), none⟩, ⟨none, (.e (.store 3 (.t p10) (.t p37))), none⟩, ⟨some p11, (.mov (.t p38)), none⟩])
  (.seq (.seq (.ops [⟨some p39, (.mov (.t p11)), none⟩, ⟨some p40, (.p (.un .not (.t p39))), none⟩])
  (.cond (.t p40) (.seq (.ops [⟨some p41, (.c (.func 92 [(.c (.int .i64 1)), (.c (.int .i64 111))])), none⟩, ⟨some p6, (.mov (.c (.nilSlice 0))), none⟩, ⟨some p7, (.mov (.t p41)), none⟩])
  .ret) .skip))
  (.seq (.seq (.ops [⟨some p42, (.p (.fieldAddr 0 (.t p5))), none⟩, ⟨some p43, (.r (.load .one (.t p42))), none⟩])
  (.block 0 (.seq (.seq (.ops [⟨some p45, (.p (.bin .eql .none (.t p43) (.c (.int .i64 2)))), none⟩, ⟨some p44, (.mov (.t p45)), none⟩])
  (.cond (.t p44) .skip (.seq (.ops [⟨some p46, (.p (.bin .eql .none (.t p43) (.c (.int .i64 3)))), none⟩, ⟨some p44, (.mov (.t p46)), none⟩])
  (.cond (.t p44) .skip (.ops [⟨some p47, (.p (.bin .eql .none (.t p43) (.c (.int .i64 4)))), none⟩, ⟨some p44, (.mov (.t p47)), none⟩])))))
  (.cond (.t p44) (.seq (.ops [⟨some p48, (.r (.load (.many 3) (.t p10))), none⟩, ⟨some p49, (.r (.load (.many 4) (.t p5))), none⟩, ⟨some p50, (.c (.func 97 [(.t p48), (.t p49)])), none⟩, ⟨some p6, (.mov (.t p50)), none⟩, ⟨some p7, (.mov (.c .nilIface)), none⟩])
  .ret) (.seq (.ops [⟨some p52, (.p (.bin .eql .none (.t p43) (.c (.int .i64 10)))), none⟩, ⟨some p51, (.mov (.t p52)), none⟩])
  (.cond (.t p51) (.seq (.ops [⟨some p53, (.mov (.t p9)), none⟩, ⟨some p54, (.p (.fieldAddr 1 (.t p5))), none⟩, ⟨some p55, (.r (.load .one (.t p54))), none⟩, ⟨some p56, (.c (.func 98 [(.t p53), (.t p55)])), none⟩, ⟨some p6, (.mov (.t p56)), none⟩, ⟨some p7, (.mov (.c .nilIface)), none⟩])
  .ret) .skip))))))
  (.seq (.seq (.ops [⟨some p57, (.p (.fieldAddr 1 (.t p10))), none⟩, ⟨some p58, (.r (.load .one (.t p57))), none⟩, ⟨some p59, (.p (.bin .eql .none (.t p58) (.c (.str [99, 108, 111, 115, 101, 100])))), none⟩])
  (.cond (.t p59) (.seq (.ops [⟨some p60, (.c (.func 92 [(.c (.int .i64 1)), (.c (.int .i64 114))])), none⟩, ⟨some p6, (.mov (.c (.nilSlice 0))), none⟩, ⟨some p7, (.mov (.t p60)), none⟩])
  .ret) .skip))
  (.seq (.seq (.ops [⟨some p61, (.p (.fieldAddr 0 (.t p5))), none⟩, ⟨some p62, (.r (.load .one (.t p61))), none⟩, ⟨some p63, (.p (.bin .eql .none (.t p62) (.c (.int .i64 8)))), none⟩, ⟨some p64, (.mov (.t p63)), none⟩, ⟨some p65, (.p (.fieldAddr 0 (.t p5))), some (p64, false)⟩, ⟨some p66, (.r (.load .one (.t p65))), some (p64, false)⟩, ⟨some p67, (.p (.bin .eql .none (.t p66) (.c (.int .i64 9)))), some (p64, false)⟩, ⟨some p68, (.p (.pick (.t p64) (.c (.bool true)) (.t p67))), none⟩])
  (.cond (.t p68) (.seq (.ops [⟨some p69, (.mov (.t p9)), none⟩, ⟨some p70, (.r (.load (.many 4) (.t p5))), none⟩, ⟨some p71, (.c (.func 99 [(.t p69), (.t p70)])), none⟩, ⟨some p72, (.p (.extract 0 (.t p71))), none⟩, ⟨some p73, (.p (.extract 1 (.t p71))), none⟩, ⟨some p6, (.mov (.t p72)), none⟩, ⟨some p7, (.mov (.t p73)), none⟩])
  .ret) .skip))
  (.seq (.ops [⟨some p74, (.mov (.t p9)), none⟩, ⟨some p75, (.mov (.t p1)), none⟩, ⟨some p76, (.r (.load (.many 4) (.t p5))), none⟩, ⟨some p77, (.c (.func 100 [(.t p74), (.t p75), (.t p76)])), none⟩, ⟨some p78, (.p (.extract 0 (.t p77))), none⟩, ⟨some p79, (.p (.extract 1 (.t p77))), none⟩, ⟨some p6, (.mov (.t p78)), none⟩, ⟨some p7, (.mov (.t p79)), none⟩])
  .ret))))))))))), [(.tmp p6), (.tmp p7)]⟩
def d47 : DFn := ⟨5, (.seq (.ops [⟨some p2, (.mov (.c (.str []))), none⟩])
  (.seq (.ops [⟨some p3, (.mov (.t p0)), none⟩, ⟨some p4, (.c (.func 101 [(.t p3)])), none⟩, ⟨some p2, (.mov (.t p4)), none⟩])
  .ret)), [(.tmp p2)]⟩
def d48 : DFn := ⟨100, (.seq (.ops [⟨some p4, (.mov (.c (.int .i64 0))), none⟩, ⟨some p5, (.mov (.c (.int .i64 0))), none⟩])
  (.seq (.seq (.ops [⟨some p15, (.mov (.t p0)), none⟩, ⟨some p16, (.c (.func 49 [(.t p15)])), none⟩, ⟨some p17, (.p (.un .not (.t p16))), none⟩])
  (.cond (.t p17) (.seq (.ops [⟨some p4, (.mov (.c (.int .i64 0))), none⟩, ⟨some p5, (.mov (.c (.int .i64 8))), none⟩])
  .ret) .skip))
  (.seq (.ops [⟨some p18, (.mov (.t p0)), none⟩, ⟨some p19, (.p (.nilCheck (.t p18))), none⟩, ⟨some p20, (.p (.fieldAddr 0 (.t p19))), none⟩, ⟨some p21, (.c (.func 50 [(.t p20)])), none⟩])
  (.seq (.ops [⟨some p22, (.mov (.t p0)), none⟩, ⟨some p23, (.p (.nilCheck (.t p22))), none⟩, ⟨some p24, (.p (.fieldAddr 0 (.t p23))), none⟩, ⟨none, (.defer (.func 51 [(.t p24)])), none⟩])
  (.seq (.seq (.ops [⟨some p25, (.mov (.t p1)), none⟩, ⟨some p26, (.c (.func 102 [(.t p25)])), none⟩, ⟨some p6, (.mov (.t p26)), none⟩])
  (.seq (.ops [⟨some p27, (.mov (.t p6)), none⟩, ⟨some p28, (.p (.bin .neq .none (.t p27) (.c (.int .i64 0)))), none⟩])
  (.cond (.t p28) (.seq (.ops [⟨some p29, (.mov (.t p6)), none⟩, ⟨some p4, (.mov (.c (.int .i64 0))), none⟩, ⟨some p5, (.mov (.t p29)), none⟩])
  .ret) .skip)))
  (.seq (.seq (.ops [⟨some p30, (.mov (.t p0)), none⟩, ⟨some p31, (.p (.nilCheck (.t p30))), none⟩, ⟨some p32, (.p (.fieldAddr 4 (.t p31))), none⟩, ⟨some p33, (.r (.load .one (.t p32))), none⟩, ⟨some p34, (.p (.bin .eql .none (.t p33) (.c (.int .i64 1099511627776)))), none⟩])
  (.cond (.t p34) (.seq (.ops [⟨some p4, (.mov (.c (.int .i64 0))), none⟩, ⟨some p5, (.mov (.c (.int .i64 5))), none⟩])
  .ret) .skip))
  (.seq (.ops [⟨some p35, (.mov (.t p0)), none⟩, ⟨some p36, (.p (.nilCheck (.t p35))), none⟩, ⟨some p37, (.p (.fieldAddr 4 (.t p36))), none⟩, ⟨some p38, (.r (.load .one (.t p37))), none⟩, ⟨some p39, (.p (.bin .add .none (.t p38) (.c (.int .i64 1)))), none⟩, ⟨some p7, (.mov (.t p39)), none⟩])
  (.seq (.ops [⟨some p40, (.e (.buildSlice 5 1 1 [(.int .u8 0)] [(0, (.c (.int .u8 1)))])), none⟩, ⟨some p41, (.mov (.t p7)), none⟩, ⟨some p42, (.c (.func 58 [(.t p40), (.t p41)])), none⟩, ⟨some p43, (.mov (.t p1)), none⟩, ⟨some p44, (.p (.lenSlice (.t p43))), none⟩, ⟨some p45, (.c (.func 58 [(.t p42), (.t p44)])), none⟩, ⟨some p8, (.mov (.t p45)), none⟩])
  (.seq (.seq (.ops [⟨some p46, (.mov (.t p1)), none⟩, ⟨some p47, (.p (.lenSlice (.t p46))), none⟩, ⟨some p48, (.mov (.c (.int .i64 0))), none⟩])
  (.block 0 (.loop (.seq (.ops [⟨some p49, (.p (.bin .lss .none (.t p48) (.t p47))), none⟩])
  (.seq (.cond (.t p49) .skip (.exit 0))
  (.seq (.block 1 (.seq (.ops [⟨some p50, (.p (.indexAddr 3 (.t p46) (.t p48))), none⟩, ⟨some p51, (.r (.load (.many 3) (.t p50))), none⟩, ⟨some p10, (.e (.alloc 112 [(.str []), (.bool false), (.str [])])), none⟩, ⟨none, (.e (.store 3 (.t p10) (.t p51))), none⟩])
  (.draw [] [(⟨some p52, (.mov (.t p8)), none⟩, 0, 0), (⟨some p53, (.p (.fieldAddr 0 (.t p10))), none⟩, 0, 0), (⟨some p54, (.r (.load .one (.t p53))), none⟩, 0, 0), (⟨some p55, (.c (.func 57 [(.t p52), (.t p54)])), none⟩, 0, 1), (⟨some p56, (.p (.fieldAddr 1 (.t p10))), none⟩, 0, 1), (⟨some p57, (.r (.load .one (.t p56))), none⟩, 0, 1), (⟨some p58, (.p (.fieldAddr 2 (.t p10))), none⟩, 0, 1), (⟨some p59, (.r (.load .one (.t p58))), none⟩, 0, 1), (⟨some p60, (.c (.func 56 [(.t p55), (.t p57), (.t p59)])), none⟩, 1, 2), (⟨some p8, (.mov (.t p60)), none⟩, 2, 2)])))
  (.ops [⟨some p61, (.p (.bin .add .none (.t p48) (.c (.int .i64 1)))), none⟩, ⟨some p48, (.mov (.t p61)), none⟩])))))))
  (.seq (.seq (.ops [⟨some p63, (.mov (.t p0)), none⟩, ⟨some p64, (.p (.nilCheck (.t p63))), none⟩, ⟨some p65, (.p (.fieldAddr 2 (.t p64))), none⟩, ⟨some p66, (.r (.load .one (.t p65))), none⟩, ⟨some p67, (.mov (.t p8)), none⟩, ⟨some p68, (.c (.func 54 [(.t p66), (.t p67)])), none⟩, ⟨some p62, (.mov (.t p68)), none⟩, ⟨some p69, (.p (.extract 0 (.t p62))), none⟩, ⟨some p70, (.p (.extract 1 (.t p62))), none⟩, ⟨some p11, (.mov (.t p69)), none⟩, ⟨some p12, (.mov (.t p70)), none⟩])
  (.seq (.ops [⟨some p71, (.mov (.t p12)), none⟩, ⟨some p72, (.p (.bin .neq .none (.t p71) (.c (.int .i64 0)))), none⟩])
  (.cond (.t p72) (.seq (.ops [⟨some p73, (.mov (.t p12)), none⟩, ⟨some p4, (.mov (.c (.int .i64 0))), none⟩, ⟨some p5, (.mov (.t p73)), none⟩])
  .ret) .skip)))
  (.seq (.seq (.ops [⟨some p74, (.mov (.t p1)), none⟩, ⟨some p75, (.p (.lenSlice (.t p74))), none⟩, ⟨some p76, (.mov (.c (.int .i64 0))), none⟩])
  (.block 2 (.loop (.seq (.ops [⟨some p77, (.p (.bin .lss .none (.t p76) (.t p75))), none⟩])
  (.seq (.cond (.t p77) .skip (.exit 2))
  (.seq (.block 3 (.seq (.ops [⟨some p78, (.p (.indexAddr 3 (.t p74) (.t p76))), none⟩, ⟨some p79, (.r (.load (.many 3) (.t p78))), none⟩, ⟨some p14, (.e (.alloc 112 [(.str []), (.bool false), (.str [])])), none⟩, ⟨none, (.e (.store 3 (.t p14) (.t p79))), none⟩])
  (.draw [] [(⟨some p80, (.mov (.t p0)), none⟩, 0, 0), (⟨some p81, (.p (.nilCheck (.t p80))), none⟩, 0, 0), (⟨some p82, (.p (.fieldAddr 3 (.t p81))), none⟩, 0, 0), (⟨some p83, (.r (.load .one (.t p82))), none⟩, 0, 0), (⟨some p84, (.p (.fieldAddr 0 (.t p14))), none⟩, 0, 0), (⟨some p85, (.r (.load .one (.t p84))), none⟩, 0, 0), (⟨some p86, (.p (.fieldAddr 0 (.t p14))), none⟩, 0, 0), (⟨some p87, (.r (.load .one (.t p86))), none⟩, 0, 0), (⟨some p88, (.p (.fieldAddr 1 (.t p14))), none⟩, 0, 0), (⟨some p89, (.r (.load .one (.t p88))), none⟩, 0, 0), (⟨some p90, (.p (.fieldAddr 2 (.t p14))), none⟩, 0, 0), (⟨some p91, (.r (.load .one (.t p90))), none⟩, 0, 0), (⟨some p92, (.mov (.t p7)), none⟩, 0, 0), (⟨some p93, (.p (.build [(.str []), (.bool false), (.str []), (.int .i64 0)] [(0, 1, (.t p87)), (1, 1, (.t p89)), (2, 1, (.t p91)), (3, 1, (.t p92))])), none⟩, 0, 0), (⟨none, (.e (.mapUpdate .str (.t p83) (.t p85) (.t p93))), none⟩, 0, 1)])))
  (.ops [⟨some p94, (.p (.bin .add .none (.t p76) (.c (.int .i64 1)))), none⟩, ⟨some p76, (.mov (.t p94)), none⟩])))))))
  (.seq (.ops [⟨some p95, (.mov (.t p0)), none⟩, ⟨some p96, (.mov (.t p7)), none⟩, ⟨some p97, (.p (.nilCheck (.t p95))), none⟩, ⟨some p98, (.p (.fieldAddr 4 (.t p97))), none⟩, ⟨none, (.e (.store 1 (.t p98) (.t p96))), none⟩])
  (.seq (.ops [⟨some p99, (.mov (.t p7)), none⟩, ⟨some p4, (.mov (.t p99)), none⟩, ⟨some p5, (.mov (.c (.int .i64 0))), none⟩])
  .ret))))))))))))), [(.tmp p4), (.tmp p5)]⟩
def d49 : DFn := ⟨12, (.seq (.ops [⟨some p2, (.mov (.c (.bool false))), none⟩])
  (.seq (.ops [⟨some p3, (.mov (.t p0)), none⟩, ⟨some p4, (.p (.bin .neq .ptr (.t p3) (.c .nilPtr))), none⟩, ⟨some p5, (.mov (.t p4)), none⟩, ⟨some p6, (.mov (.t p0)), some (p5, true)⟩, ⟨some p7, (.p (.nilCheck (.t p6))), some (p5, true)⟩, ⟨some p8, (.p (.fieldAddr 2 (.t p7))), some (p5, true)⟩, ⟨some p9, (.r (.load .one (.t p8))), some (p5, true)⟩, ⟨some p10, (.p (.bin .neq .ptr (.t p9) (.c .nilPtr))), some (p5, true)⟩, ⟨some p11, (.p (.pick (.t p5) (.t p10) (.c (.bool false)))), none⟩, ⟨some p2, (.mov (.t p11)), none⟩])
  .ret)), [(.tmp p2)]⟩
def d50 : DFn := ⟨6, (.ops [⟨some p2, (.mov (.t p0)), none⟩, ⟨some p3, (.p (.nilCheck (.t p2))), none⟩, ⟨some p4, (.p (.fieldAddr 0 (.t p3))), none⟩, ⟨some p5, (.c (.func 103 [(.t p4)])), none⟩]), []⟩
def d51 : DFn := ⟨6, (.ops [⟨some p2, (.mov (.t p0)), none⟩, ⟨some p3, (.p (.nilCheck (.t p2))), none⟩, ⟨some p4, (.p (.fieldAddr 0 (.t p3))), none⟩, ⟨some p5, (.c (.func 104 [(.t p4)])), none⟩]), []⟩
def d52 : DFn := ⟨29, (.seq (.ops [⟨some p2, (.mov (.c (.int .i64 0))), none⟩])
  (.seq (.seq (.ops [⟨some p4, (.mov (.t p0)), none⟩, ⟨some p5, (.c (.func 105 [(.t p4)])), none⟩, ⟨some p6, (.p (.un .not (.t p5))), none⟩])
  (.cond (.t p6) (.seq (.ops [⟨some p2, (.mov (.c (.int .i64 8))), none⟩])
  .ret) .skip))
  (.seq (.seq (.ops [⟨some p7, (.mov (.t p0)), none⟩, ⟨some p8, (.p (.nilCheck (.t p7))), none⟩, ⟨some p9, (.p (.fieldAddr 1 (.t p8))), none⟩, ⟨some p10, (.r (.load .one (.t p9))), none⟩, ⟨some p11, (.p (.lenSlice (.t p10))), none⟩, ⟨some p3, (.mov (.t p11)), none⟩])
  (.seq (.ops [⟨some p12, (.mov (.t p3)), none⟩, ⟨some p13, (.p (.bin .gtr .none (.t p12) (.c (.int .i64 0)))), none⟩])
  (.cond (.t p13) (.seq (.draw [] [(⟨some p14, (.mov (.t p0)), none⟩, 0, 1), (⟨some p15, (.p (.nilCheck (.t p14))), none⟩, 0, 1), (⟨some p16, (.p (.fieldAddr 0 (.t p15))), none⟩, 0, 1), (⟨some p17, (.r (.load .one (.t p16))), none⟩, 0, 1), (⟨some p18, (.mov (.t p0)), none⟩, 0, 0), (⟨some p19, (.p (.nilCheck (.t p18))), none⟩, 0, 0), (⟨some p20, (.p (.fieldAddr 1 (.t p19))), none⟩, 0, 0), (⟨some p21, (.r (.load .one (.t p20))), none⟩, 0, 0), (⟨some p22, (.mov (.t p3)), none⟩, 0, 0), (⟨some p23, (.p (.bin .sub .none (.t p22) (.c (.int .i64 1)))), none⟩, 0, 0), (⟨some p24, (.p (.indexAddr 2 (.t p21) (.t p23))), none⟩, 0, 0), (⟨some p25, (.p (.fieldAddr 0 (.t p24))), none⟩, 0, 0), (⟨some p26, (.r (.load .one (.t p25))), none⟩, 0, 0), (⟨some p27, (.c (.func 107 [(.t p26)])), none⟩, 0, 1), (⟨some p28, (.c (.func 106 [(.t p17), (.t p27)])), none⟩, 1, 2), (⟨some p2, (.mov (.t p28)), none⟩, 2, 2)])
  .ret) .skip)))
  (.seq (.ops [⟨some p2, (.mov (.c (.int .i64 0))), none⟩])
  .ret)))), [(.tmp p2)]⟩
def d54 : DFn := ⟨151, (.seq (.ops [⟨some p4, (.mov (.c (.int .i64 0))), none⟩, ⟨some p5, (.mov (.c (.int .i64 0))), none⟩])
  (.seq (.seq (.ops [⟨some p9, (.mov (.t p0)), none⟩, ⟨some p10, (.c (.func 105 [(.t p9)])), none⟩, ⟨some p11, (.p (.un .not (.t p10))), none⟩])
  (.cond (.t p11) (.seq (.ops [⟨some p4, (.mov (.c (.int .i64 0))), none⟩, ⟨some p5, (.mov (.c (.int .i64 8))), none⟩])
  .ret) .skip))
  (.seq (.seq (.ops [⟨some p12, (.mov (.t p0)), none⟩, ⟨some p13, (.p (.nilCheck (.t p12))), none⟩, ⟨some p14, (.p (.fieldAddr 3 (.t p13))), none⟩, ⟨some p15, (.r (.load .one (.t p14))), none⟩, ⟨some p16, (.p (.bin .eql .none (.t p15) (.c (.int .i64 9223372036854775807)))), none⟩])
  (.cond (.t p16) (.seq (.ops [⟨some p4, (.mov (.c (.int .i64 0))), none⟩, ⟨some p5, (.mov (.c (.int .i64 5))), none⟩])
  .ret) .skip))
  (.seq (.ops [⟨some p18, (.mov (.t p0)), none⟩, ⟨some p19, (.p (.nilCheck (.t p18))), none⟩, ⟨some p20, (.p (.fieldAddr 3 (.t p19))), none⟩, ⟨some p21, (.r (.load .one (.t p20))), none⟩, ⟨some p22, (.mov (.t p1)), none⟩, ⟨some p23, (.c (.func 108 [(.t p21), (.t p22)])), none⟩, ⟨some p17, (.mov (.t p23)), none⟩, ⟨some p24, (.p (.extract 0 (.t p17))), none⟩, ⟨some p25, (.p (.extract 1 (.t p17))), none⟩, ⟨some p6, (.mov (.t p24)), none⟩, ⟨some p7, (.mov (.t p25)), none⟩])
  (.seq (.seq (.ops [⟨some p26, (.mov (.t p7)), none⟩, ⟨some p27, (.p (.bin .neq .none (.t p26) (.c (.int .i64 0)))), none⟩])
  (.cond (.t p27) (.seq (.ops [⟨some p28, (.mov (.t p7)), none⟩, ⟨some p4, (.mov (.c (.int .i64 0))), none⟩, ⟨some p5, (.mov (.t p28)), none⟩])
  .ret) .skip))
  (.seq (.ops [⟨some p29, (.mov (.t p0)), none⟩, ⟨some p30, (.p (.nilCheck (.t p29))), none⟩, ⟨some p31, (.p (.fieldAddr 1 (.t p30))), none⟩, ⟨some p32, (.r (.load .one (.t p31))), none⟩, ⟨some p33, (.p (.lenSlice (.t p32))), none⟩, ⟨some p34, (.p (.bin .sub .none (.t p33) (.c (.int .i64 1)))), none⟩, ⟨some p8, (.mov (.t p34)), none⟩])
  (.seq (.seq (.ops [⟨some p35, (.mov (.t p8)), none⟩, ⟨some p36, (.p (.bin .lss .none (.t p35) (.c (.int .i64 0)))), none⟩, ⟨some p37, (.mov (.t p36)), none⟩, ⟨some p38, (.mov (.t p0)), some (p37, false)⟩, ⟨some p39, (.p (.nilCheck (.t p38))), some (p37, false)⟩, ⟨some p40, (.p (.fieldAddr 1 (.t p39))), some (p37, false)⟩, ⟨some p41, (.r (.load .one (.t p40))), some (p37, false)⟩, ⟨some p42, (.mov (.t p8)), some (p37, false)⟩, ⟨some p43, (.p (.indexAddr 2 (.t p41) (.t p42))), some (p37, false)⟩, ⟨some p44, (.p (.fieldAddr 1 (.t p43))), some (p37, false)⟩, ⟨some p45, (.r (.load .one (.t p44))), some (p37, false)⟩, ⟨some p46, (.p (.bin .geq .none (.t p45) (.c (.int .i64 4096)))), some (p37, false)⟩, ⟨some p47, (.p (.pick (.t p37) (.c (.bool true)) (.t p46))), none⟩])
  (.cond (.t p47) (.seq (.seq (.ops [⟨some p48, (.mov (.t p8)), none⟩, ⟨some p49, (.p (.bin .geq .none (.t p48) (.c (.int .i64 0)))), none⟩])
  (.cond (.t p49) (.seq (.draw [] [(⟨some p50, (.mov (.t p0)), none⟩, 0, 1), (⟨some p51, (.p (.nilCheck (.t p50))), none⟩, 0, 1), (⟨some p52, (.p (.fieldAddr 0 (.t p51))), none⟩, 0, 1), (⟨some p53, (.r (.load .one (.t p52))), none⟩, 0, 1), (⟨some p54, (.mov (.t p0)), none⟩, 0, 0), (⟨some p55, (.p (.nilCheck (.t p54))), none⟩, 0, 0), (⟨some p56, (.p (.fieldAddr 1 (.t p55))), none⟩, 0, 0), (⟨some p57, (.r (.load .one (.t p56))), none⟩, 0, 0), (⟨some p58, (.mov (.t p8)), none⟩, 0, 0), (⟨some p59, (.p (.indexAddr 2 (.t p57) (.t p58))), none⟩, 0, 0), (⟨some p60, (.p (.fieldAddr 0 (.t p59))), none⟩, 0, 0), (⟨some p61, (.r (.load .one (.t p60))), none⟩, 0, 0), (⟨some p62, (.c (.func 107 [(.t p61)])), none⟩, 0, 1), (⟨some p63, (.c (.func 106 [(.t p53), (.t p62)])), none⟩, 1, 2), (⟨some p7, (.mov (.t p63)), none⟩, 2, 2)])
  (.seq (.ops [⟨some p64, (.mov (.t p7)), none⟩, ⟨some p65, (.p (.bin .neq .none (.t p64) (.c (.int .i64 0)))), none⟩])
  (.cond (.t p65) (.seq (.ops [⟨some p66, (.mov (.t p7)), none⟩, ⟨some p4, (.mov (.c (.int .i64 0))), none⟩, ⟨some p5, (.mov (.t p66)), none⟩])
  .ret) .skip))) .skip))
  (.seq (.seq (.draw [] [(⟨some p67, (.mov (.t p0)), none⟩, 0, 1), (⟨some p68, (.p (.nilCheck (.t p67))), none⟩, 0, 1), (⟨some p69, (.p (.fieldAddr 0 (.t p68))), none⟩, 0, 1), (⟨some p70, (.r (.load .one (.t p69))), none⟩, 0, 1), (⟨some p71, (.mov (.t p0)), none⟩, 0, 0), (⟨some p72, (.p (.nilCheck (.t p71))), none⟩, 0, 0), (⟨some p73, (.p (.fieldAddr 3 (.t p72))), none⟩, 0, 0), (⟨some p74, (.r (.load .one (.t p73))), none⟩, 0, 0), (⟨some p75, (.c (.func 107 [(.t p74)])), none⟩, 0, 1), (⟨some p76, (.mov (.t p6)), none⟩, 0, 1), (⟨some p77, (.c (.func 109 [(.t p70), (.t p75), (.t p76)])), none⟩, 1, 2), (⟨some p7, (.mov (.t p77)), none⟩, 2, 2)])
  (.seq (.ops [⟨some p78, (.mov (.t p7)), none⟩, ⟨some p79, (.p (.bin .neq .none (.t p78) (.c (.int .i64 0)))), none⟩])
  (.cond (.t p79) (.seq (.ops [⟨some p80, (.mov (.t p7)), none⟩, ⟨some p4, (.mov (.c (.int .i64 0))), none⟩, ⟨some p5, (.mov (.t p80)), none⟩])
  .ret) .skip)))
  (.draw [] [(⟨some p81, (.mov (.t p0)), none⟩, 0, 2), (⟨some p82, (.mov (.t p0)), none⟩, 0, 1), (⟨some p83, (.p (.nilCheck (.t p82))), none⟩, 0, 1), (⟨some p84, (.p (.fieldAddr 1 (.t p83))), none⟩, 0, 1), (⟨some p85, (.r (.load .one (.t p84))), none⟩, 0, 1), (⟨some p86, (.mov (.t p0)), none⟩, 0, 0), (⟨some p87, (.p (.nilCheck (.t p86))), none⟩, 0, 0), (⟨some p88, (.p (.fieldAddr 3 (.t p87))), none⟩, 0, 0), (⟨some p89, (.r (.load .one (.t p88))), none⟩, 0, 0), (⟨some p90, (.mov (.t p6)), none⟩, 0, 0), (⟨some p91, (.p (.lenSlice (.t p90))), none⟩, 0, 0), (⟨some p92, (.p (.build [(.int .i64 0), (.int .i64 0)] [(0, 1, (.t p89)), (1, 1, (.t p91))])), none⟩, 0, 0), (⟨some p93, (.e (.buildSlice 203 2 1 [(.int .i64 0), (.int .i64 0)] [(0, (.t p92))])), none⟩, 0, 1), (⟨some p94, (.e (.append 203 2 16 (.t p85) (.t p93))), none⟩, 1, 2), (⟨some p95, (.p (.nilCheck (.t p81))), none⟩, 2, 2), (⟨some p96, (.p (.fieldAddr 1 (.t p95))), none⟩, 2, 2), (⟨none, (.e (.store 1 (.t p96) (.t p94))), none⟩, 2, 3)]))) (.seq (.seq (.draw [] [(⟨some p97, (.mov (.t p0)), none⟩, 0, 1), (⟨some p98, (.p (.nilCheck (.t p97))), none⟩, 0, 1), (⟨some p99, (.p (.fieldAddr 0 (.t p98))), none⟩, 0, 1), (⟨some p100, (.r (.load .one (.t p99))), none⟩, 0, 1), (⟨some p101, (.mov (.t p0)), none⟩, 0, 0), (⟨some p102, (.p (.nilCheck (.t p101))), none⟩, 0, 0), (⟨some p103, (.p (.fieldAddr 1 (.t p102))), none⟩, 0, 0), (⟨some p104, (.r (.load .one (.t p103))), none⟩, 0, 0), (⟨some p105, (.mov (.t p8)), none⟩, 0, 0), (⟨some p106, (.p (.indexAddr 2 (.t p104) (.t p105))), none⟩, 0, 0), (⟨some p107, (.p (.fieldAddr 0 (.t p106))), none⟩, 0, 0), (⟨some p108, (.r (.load .one (.t p107))), none⟩, 0, 0), (⟨some p109, (.c (.func 107 [(.t p108)])), none⟩, 0, 1), (⟨some p110, (.mov (.t p6)), none⟩, 0, 1), (⟨some p111, (.c (.func 109 [(.t p100), (.t p109), (.t p110)])), none⟩, 1, 2), (⟨some p7, (.mov (.t p111)), none⟩, 2, 2)])
  (.seq (.ops [⟨some p112, (.mov (.t p7)), none⟩, ⟨some p113, (.p (.bin .neq .none (.t p112) (.c (.int .i64 0)))), none⟩])
  (.cond (.t p113) (.seq (.ops [⟨some p114, (.mov (.t p7)), none⟩, ⟨some p4, (.mov (.c (.int .i64 0))), none⟩, ⟨some p5, (.mov (.t p114)), none⟩])
  .ret) .skip)))
  (.ops [⟨some p115, (.mov (.t p0)), none⟩, ⟨some p116, (.p (.nilCheck (.t p115))), none⟩, ⟨some p117, (.p (.fieldAddr 1 (.t p116))), none⟩, ⟨some p118, (.r (.load .one (.t p117))), none⟩, ⟨some p119, (.mov (.t p8)), none⟩, ⟨some p120, (.p (.indexAddr 2 (.t p118) (.t p119))), none⟩, ⟨some p121, (.p (.fieldAddr 1 (.t p120))), none⟩, ⟨some p122, (.r (.load .one (.t p121))), none⟩, ⟨some p123, (.mov (.t p6)), none⟩, ⟨some p124, (.p (.lenSlice (.t p123))), none⟩, ⟨some p125, (.p (.bin .add .none (.t p122) (.t p124))), none⟩, ⟨some p126, (.p (.indexAddr 2 (.t p118) (.t p119))), none⟩, ⟨some p127, (.p (.fieldAddr 1 (.t p126))), none⟩, ⟨none, (.e (.store 1 (.t p127) (.t p125))), none⟩]))))
  (.seq (.draw [] [(⟨some p128, (.mov (.t p0)), none⟩, 0, 3), (⟨some p129, (.mov (.t p0)), none⟩, 0, 2), (⟨some p130, (.p (.nilCheck (.t p129))), none⟩, 0, 2), (⟨some p131, (.p (.fieldAddr 2 (.t p130))), none⟩, 0, 2), (⟨some p132, (.r (.load .one (.t p131))), none⟩, 0, 2), (⟨some p133, (.mov (.t p1)), none⟩, 0, 0), (⟨some p134, (.c (.func 110 [(.t p133)])), none⟩, 0, 1), (⟨some p135, (.e (.buildSlice 26 1 1 [(.nilSlice 0)] [(0, (.t p134))])), none⟩, 1, 2), (⟨some p136, (.e (.append 26 1 24 (.t p132) (.t p135))), none⟩, 2, 3), (⟨some p137, (.p (.nilCheck (.t p128))), none⟩, 3, 3), (⟨some p138, (.p (.fieldAddr 2 (.t p137))), none⟩, 3, 3), (⟨none, (.e (.store 1 (.t p138) (.t p136))), none⟩, 3, 4)])
  (.seq (.ops [⟨some p139, (.mov (.t p0)), none⟩, ⟨some p140, (.p (.nilCheck (.t p139))), none⟩, ⟨some p141, (.p (.fieldAddr 3 (.t p140))), none⟩, ⟨some p142, (.r (.load .one (.t p141))), none⟩, ⟨some p143, (.p (.bin .add .none (.t p142) (.c (.int .i64 1)))), none⟩, ⟨some p144, (.p (.nilCheck (.t p139))), none⟩, ⟨some p145, (.p (.fieldAddr 3 (.t p144))), none⟩, ⟨none, (.e (.store 1 (.t p145) (.t p143))), none⟩])
  (.seq (.ops [⟨some p146, (.mov (.t p0)), none⟩, ⟨some p147, (.p (.nilCheck (.t p146))), none⟩, ⟨some p148, (.p (.fieldAddr 3 (.t p147))), none⟩, ⟨some p149, (.r (.load .one (.t p148))), none⟩, ⟨some p150, (.p (.bin .sub .none (.t p149) (.c (.int .i64 1)))), none⟩, ⟨some p4, (.mov (.t p150)), none⟩, ⟨some p5, (.mov (.c (.int .i64 0))), none⟩])
  .ret)))))))))), [(.tmp p4), (.tmp p5)]⟩
def d56 : DFn := ⟨16, (.seq (.ops [⟨some p6, (.mov (.c (.nilSlice 0))), none⟩])
  (.seq (.seq (.ops [⟨some p7, (.mov (.t p1)), none⟩])
  (.cond (.t p7) (.seq (.ops [⟨some p8, (.mov (.t p0)), none⟩, ⟨some p9, (.e (.buildSlice 5 1 1 [(.int .u8 0)] [(0, (.c (.int .u8 1)))])), none⟩, ⟨some p10, (.e (.append 5 1 1 (.t p8) (.t p9))), none⟩, ⟨some p6, (.mov (.t p10)), none⟩])
  .ret) .skip))
  (.seq (.ops [⟨some p11, (.mov (.t p0)), none⟩, ⟨some p12, (.e (.buildSlice 5 1 1 [(.int .u8 0)] [(0, (.c (.int .u8 0)))])), none⟩, ⟨some p13, (.e (.append 5 1 1 (.t p11) (.t p12))), none⟩, ⟨some p14, (.mov (.t p2)), none⟩, ⟨some p15, (.c (.func 57 [(.t p13), (.t p14)])), none⟩, ⟨some p6, (.mov (.t p15)), none⟩])
  .ret))), [(.tmp p6)]⟩
def d57 : DFn := ⟨11, (.seq (.ops [⟨some p4, (.mov (.c (.nilSlice 0))), none⟩])
  (.seq (.ops [⟨some p5, (.mov (.t p0)), none⟩, ⟨some p6, (.mov (.t p1)), none⟩, ⟨some p7, (.p (.lenStr (.t p6))), none⟩, ⟨some p8, (.c (.func 58 [(.t p5), (.t p7)])), none⟩, ⟨some p9, (.mov (.t p1)), none⟩, ⟨some p10, (.e (.append 5 1 1 (.t p8) (.t p9))), none⟩, ⟨some p4, (.mov (.t p10)), none⟩])
  .ret)), [(.tmp p4)]⟩
def d58 : DFn := ⟨46, (.seq (.ops [⟨some p4, (.mov (.c (.nilSlice 0))), none⟩])
  (.seq (.ops [⟨some p9, (.mov (.t p0)), none⟩, ⟨some p10, (.e (.append 5 1 1 (.c (.nilSlice 0)) (.t p9))), none⟩, ⟨some p5, (.mov (.t p10)), none⟩])
  (.seq (.ops [⟨some p11, (.mov (.t p1)), none⟩, ⟨some p12, (.p (.maxI (.t p11) (.c (.int .i64 0)))), none⟩, ⟨some p13, (.p (.toInt .u64 (.t p12))), none⟩, ⟨some p6, (.mov (.t p13)), none⟩])
  (.seq (.seq (.ops [⟨some p14, (.mov (.t p6)), none⟩, ⟨some p15, (.p (.bin .leq .none (.t p14) (.c (.int .u64 247)))), none⟩])
  (.cond (.t p15) (.seq (.ops [⟨some p16, (.mov (.t p5)), none⟩, ⟨some p17, (.mov (.t p6)), none⟩, ⟨some p18, (.p (.toInt .u8 (.t p17))), none⟩, ⟨some p19, (.e (.buildSlice 5 1 1 [(.int .u8 0)] [(0, (.t p18))])), none⟩, ⟨some p20, (.e (.append 5 1 1 (.t p16) (.t p19))), none⟩, ⟨some p4, (.mov (.t p20)), none⟩])
  .ret) .skip))
  (.seq (.ops [⟨some p21, (.mov (.t p6)), none⟩, ⟨some p22, (.c (.func 112 [(.t p21)])), none⟩, ⟨some p23, (.p (.bin .add .none (.t p22) (.c (.int .i64 7)))), none⟩, ⟨some p24, (.p (.bin .quo .none (.t p23) (.c (.int .i64 8)))), none⟩, ⟨some p7, (.mov (.t p24)), none⟩])
  (.seq (.ops [⟨some p25, (.mov (.t p5)), none⟩, ⟨some p26, (.mov (.t p7)), none⟩, ⟨some p27, (.p (.bin .add .none (.c (.int .i64 247)) (.t p26))), none⟩, ⟨some p28, (.p (.toInt .u8 (.t p27))), none⟩, ⟨some p29, (.e (.buildSlice 5 1 1 [(.int .u8 0)] [(0, (.t p28))])), none⟩, ⟨some p30, (.e (.append 5 1 1 (.t p25) (.t p29))), none⟩, ⟨some p5, (.mov (.t p30)), none⟩])
  (.seq (.seq (.ops [⟨some p31, (.mov (.t p7)), none⟩, ⟨some p32, (.p (.bin .sub .none (.t p31) (.c (.int .i64 1)))), none⟩, ⟨some p8, (.mov (.t p32)), none⟩])
  (.block 0 (.loop (.seq (.seq (.ops [⟨some p33, (.mov (.t p8)), none⟩, ⟨some p34, (.p (.bin .geq .none (.t p33) (.c (.int .i64 0)))), none⟩])
  (.cond (.t p34) .skip (.exit 0)))
  (.seq (.block 1 (.ops [⟨some p37, (.mov (.t p5)), none⟩, ⟨some p38, (.mov (.t p6)), none⟩, ⟨some p39, (.mov (.t p8)), none⟩, ⟨some p40, (.p (.bin .mul .none (.c (.int .i64 8)) (.t p39))), none⟩, ⟨some p41, (.p (.bin .shr .none (.t p38) (.t p40))), none⟩, ⟨some p42, (.p (.toInt .u8 (.t p41))), none⟩, ⟨some p43, (.e (.buildSlice 5 1 1 [(.int .u8 0)] [(0, (.t p42))])), none⟩, ⟨some p44, (.e (.append 5 1 1 (.t p37) (.t p43))), none⟩, ⟨some p5, (.mov (.t p44)), none⟩]))
  (.ops [⟨some p35, (.mov (.t p8)), none⟩, ⟨some p36, (.p (.bin .sub .none (.t p35) (.c (.int .i64 1)))), none⟩, ⟨some p8, (.mov (.t p36)), none⟩]))))))
  (.seq (.ops [⟨some p45, (.mov (.t p5)), none⟩, ⟨some p4, (.mov (.t p45)), none⟩])
  .ret)))))))), [(.tmp p4)]⟩
def d77 : DFn := ⟨140, (.seq (.ops [⟨some p2, (.mov (.c .nilPtr)), none⟩, ⟨some p3, (.mov (.c (.int .i64 0))), none⟩])
  (.seq (.seq (.ops [⟨some p16, (.mov (.t p0)), none⟩, ⟨some p17, (.c (.func 143 [(.t p16)])), none⟩, ⟨some p18, (.p (.bin .eql .ptr (.t p17) (.c .nilPtr))), none⟩])
  (.cond (.t p18) (.seq (.ops [⟨some p2, (.mov (.c .nilPtr)), none⟩, ⟨some p3, (.mov (.c (.int .i64 8))), none⟩])
  .ret) .skip))
  (.seq (.ops [⟨some p19, (.mov (.t p0)), none⟩, ⟨some p20, (.p (.build [.nilPtr, (.nilSlice 0), (.nilSlice 0), (.int .i64 0)] [(0, 1, (.t p19)), (3, 1, (.c (.int .i64 1)))])), none⟩, ⟨some p21, (.e (.box 200 (.t p20))), none⟩, ⟨some p4, (.mov (.t p21)), none⟩])
  (.seq (.ops [⟨some p5, (.mov (.c (.bool true))), none⟩])
  (.seq (.seq (.ops [⟨some p22, (.mov (.t p0)), none⟩, ⟨some p23, (.c (.func 144 [(.t p22)])), none⟩, ⟨some p24, (.p (.lenSlice (.t p23))), none⟩, ⟨some p25, (.mov (.c (.int .i64 0))), none⟩])
  (.block 0 (.loop (.seq (.ops [⟨some p26, (.p (.bin .lss .none (.t p25) (.t p24))), none⟩])
  (.seq (.cond (.t p26) .skip (.exit 0))
  (.seq (.block 1 (.seq (.ops [⟨some p27, (.p (.indexAddr 1 (.t p23) (.t p25))), none⟩, ⟨some p28, (.r (.load .one (.t p27))), none⟩, ⟨some p7, (.mov (.t p28)), none⟩])
  (.seq (.ops [⟨some p29, (.mov (.t p7)), none⟩, ⟨some p30, (.c (.func 145 [(.t p29)])), none⟩, ⟨some p8, (.mov (.t p30)), none⟩])
  (.seq (.seq (.ops [⟨some p31, (.mov (.t p8)), none⟩, ⟨some p32, (.p (.bin .eql .none (.t p31) (.c (.int .i64 0)))), none⟩])
  (.cond (.t p32) (.exit 1) .skip))
  (.seq (.ops [⟨some p34, (.mov (.t p0)), none⟩, ⟨some p35, (.mov (.t p7)), none⟩, ⟨some p36, (.c (.func 146 [(.t p34), (.t p35)])), none⟩, ⟨some p33, (.mov (.t p36)), none⟩, ⟨some p37, (.p (.extract 0 (.t p33))), none⟩, ⟨some p38, (.p (.extract 1 (.t p33))), none⟩, ⟨some p9, (.mov (.t p37)), none⟩, ⟨some p10, (.mov (.t p38)), none⟩])
  (.seq (.ops [⟨some p40, (.mov (.t p9)), none⟩, ⟨some p41, (.mov (.t p8)), none⟩, ⟨some p42, (.c (.func 147 [(.t p40), (.t p41)])), none⟩, ⟨some p39, (.mov (.t p42)), none⟩, ⟨some p43, (.p (.extract 0 (.t p39))), none⟩, ⟨some p44, (.p (.extract 1 (.t p39))), none⟩, ⟨some p11, (.mov (.t p43)), none⟩, ⟨some p12, (.mov (.t p44)), none⟩])
  (.seq (.seq (.ops [⟨some p45, (.mov (.t p8)), none⟩, ⟨some p46, (.mov (.t p4)), none⟩, ⟨some p47, (.p (.nilCheck (.t p46))), none⟩, ⟨some p48, (.p (.fieldAddr 3 (.t p47))), none⟩, ⟨some p49, (.r (.load .one (.t p48))), none⟩, ⟨some p50, (.p (.bin .neq .none (.t p45) (.t p49))), none⟩, ⟨some p51, (.mov (.t p50)), none⟩, ⟨some p52, (.mov (.t p5)), some (p51, false)⟩, ⟨some p53, (.p (.un .not (.t p52))), some (p51, false)⟩, ⟨some p54, (.p (.pick (.t p51) (.c (.bool true)) (.t p53))), none⟩])
  (.cond (.t p54) (.seq (.seq (.ops [⟨some p55, (.mov (.t p4)), none⟩, ⟨some p56, (.p (.nilCheck (.t p55))), none⟩, ⟨some p57, (.p (.fieldAddr 1 (.t p56))), none⟩, ⟨some p58, (.r (.load .one (.t p57))), none⟩, ⟨some p59, (.p (.lenSlice (.t p58))), none⟩, ⟨some p60, (.mov (.c (.int .i64 0))), none⟩])
  (.block 2 (.loop (.seq (.ops [⟨some p61, (.p (.bin .lss .none (.t p60) (.t p59))), none⟩])
  (.seq (.cond (.t p61) .skip (.exit 2))
  (.seq (.block 3 (.seq (.ops [⟨some p62, (.p (.indexAddr 2 (.t p58) (.t p60))), none⟩, ⟨some p63, (.r (.load (.many 2) (.t p62))), none⟩, ⟨some p14, (.e (.alloc 203 [(.int .i64 0), (.int .i64 0)])), none⟩, ⟨none, (.e (.store 2 (.t p14) (.t p63))), none⟩])
  (.ops [⟨some p64, (.mov (.t p0)), none⟩, ⟨some p65, (.p (.fieldAddr 0 (.t p14))), none⟩, ⟨some p66, (.r (.load .one (.t p65))), none⟩, ⟨some p67, (.c (.func 107 [(.t p66)])), none⟩, ⟨some p68, (.c (.func 113 [(.t p64), (.t p67)])), none⟩])))
  (.ops [⟨some p69, (.p (.bin .add .none (.t p60) (.c (.int .i64 1)))), none⟩, ⟨some p60, (.mov (.t p69)), none⟩])))))))
  (.ops [⟨some p70, (.mov (.t p4)), none⟩, ⟨some p71, (.mov (.t p4)), none⟩, ⟨some p72, (.p (.nilCheck (.t p70))), none⟩, ⟨some p73, (.p (.fieldAddr 1 (.t p72))), none⟩, ⟨none, (.e (.store 1 (.t p73) (.c (.nilSlice 0)))), none⟩, ⟨some p74, (.p (.nilCheck (.t p71))), none⟩, ⟨some p75, (.p (.fieldAddr 2 (.t p74))), none⟩, ⟨none, (.e (.store 1 (.t p75) (.c (.nilSlice 0)))), none⟩])) .skip))
  (.seq (.ops [⟨some p76, (.mov (.t p4)), none⟩, ⟨some p77, (.mov (.t p4)), none⟩, ⟨some p78, (.p (.nilCheck (.t p77))), none⟩, ⟨some p79, (.p (.fieldAddr 1 (.t p78))), none⟩, ⟨some p80, (.r (.load .one (.t p79))), none⟩, ⟨some p81, (.mov (.t p8)), none⟩, ⟨some p82, (.mov (.t p12)), none⟩, ⟨some p83, (.p (.build [(.int .i64 0), (.int .i64 0)] [(0, 1, (.t p81)), (1, 1, (.t p82))])), none⟩, ⟨some p84, (.e (.buildSlice 203 2 1 [(.int .i64 0), (.int .i64 0)] [(0, (.t p83))])), none⟩, ⟨some p85, (.e (.append 203 2 16 (.t p80) (.t p84))), none⟩, ⟨some p86, (.p (.nilCheck (.t p76))), none⟩, ⟨some p87, (.p (.fieldAddr 1 (.t p86))), none⟩, ⟨none, (.e (.store 1 (.t p87) (.t p85))), none⟩])
  (.seq (.ops [⟨some p88, (.mov (.t p4)), none⟩, ⟨some p89, (.mov (.t p4)), none⟩, ⟨some p90, (.p (.nilCheck (.t p89))), none⟩, ⟨some p91, (.p (.fieldAddr 2 (.t p90))), none⟩, ⟨some p92, (.r (.load .one (.t p91))), none⟩, ⟨some p93, (.mov (.t p11)), none⟩, ⟨some p94, (.e (.append 26 1 24 (.t p92) (.t p93))), none⟩, ⟨some p95, (.p (.nilCheck (.t p88))), none⟩, ⟨some p96, (.p (.fieldAddr 2 (.t p95))), none⟩, ⟨none, (.e (.store 1 (.t p96) (.t p94))), none⟩])
  (.seq (.ops [⟨some p97, (.mov (.t p4)), none⟩, ⟨some p98, (.mov (.t p8)), none⟩, ⟨some p99, (.mov (.t p11)), none⟩, ⟨some p100, (.p (.lenSlice (.t p99))), none⟩, ⟨some p101, (.p (.bin .add .none (.t p98) (.t p100))), none⟩, ⟨some p102, (.p (.nilCheck (.t p97))), none⟩, ⟨some p103, (.p (.fieldAddr 3 (.t p102))), none⟩, ⟨none, (.e (.store 1 (.t p103) (.t p101))), none⟩])
  (.ops [⟨some p104, (.mov (.t p12)), none⟩, ⟨some p105, (.mov (.t p9)), none⟩, ⟨some p106, (.p (.lenSlice (.t p105))), none⟩, ⟨some p107, (.p (.bin .eql .none (.t p104) (.t p106))), none⟩, ⟨some p5, (.mov (.t p107)), none⟩])))))))))))
  (.ops [⟨some p108, (.p (.bin .add .none (.t p25) (.c (.int .i64 1)))), none⟩, ⟨some p25, (.mov (.t p108)), none⟩])))))))
  (.seq (.seq (.ops [⟨some p109, (.mov (.t p4)), none⟩, ⟨some p110, (.p (.nilCheck (.t p109))), none⟩, ⟨some p111, (.p (.fieldAddr 1 (.t p110))), none⟩, ⟨some p112, (.r (.load .one (.t p111))), none⟩, ⟨some p113, (.p (.lenSlice (.t p112))), none⟩, ⟨some p15, (.mov (.t p113)), none⟩])
  (.seq (.ops [⟨some p114, (.mov (.t p15)), none⟩, ⟨some p115, (.p (.bin .gtr .none (.t p114) (.c (.int .i64 0)))), none⟩])
  (.cond (.t p115) (.draw [] [(⟨some p116, (.mov (.t p0)), none⟩, 0, 1), (⟨some p117, (.mov (.t p4)), none⟩, 0, 0), (⟨some p118, (.p (.nilCheck (.t p117))), none⟩, 0, 0), (⟨some p119, (.p (.fieldAddr 1 (.t p118))), none⟩, 0, 0), (⟨some p120, (.r (.load .one (.t p119))), none⟩, 0, 0), (⟨some p121, (.mov (.t p15)), none⟩, 0, 0), (⟨some p122, (.p (.bin .sub .none (.t p121) (.c (.int .i64 1)))), none⟩, 0, 0), (⟨some p123, (.p (.indexAddr 2 (.t p120) (.t p122))), none⟩, 0, 0), (⟨some p124, (.p (.fieldAddr 0 (.t p123))), none⟩, 0, 0), (⟨some p125, (.r (.load .one (.t p124))), none⟩, 0, 0), (⟨some p126, (.c (.func 107 [(.t p125)])), none⟩, 0, 1), (⟨some p127, (.mov (.t p4)), none⟩, 0, 1), (⟨some p128, (.p (.nilCheck (.t p127))), none⟩, 0, 1), (⟨some p129, (.p (.fieldAddr 1 (.t p128))), none⟩, 0, 1), (⟨some p130, (.r (.load .one (.t p129))), none⟩, 0, 1), (⟨some p131, (.mov (.t p15)), none⟩, 0, 1), (⟨some p132, (.p (.bin .sub .none (.t p131) (.c (.int .i64 1)))), none⟩, 0, 1), (⟨some p133, (.p (.indexAddr 2 (.t p130) (.t p132))), none⟩, 0, 1), (⟨some p134, (.p (.fieldAddr 1 (.t p133))), none⟩, 0, 1), (⟨some p135, (.r (.load .one (.t p134))), none⟩, 0, 1), (⟨some p136, (.c (.func 148 [(.t p116), (.t p126), (.t p135)])), none⟩, 1, 2)]) .skip)))
  (.seq (.ops [⟨some p137, (.mov (.t p4)), none⟩, ⟨some p138, (.mov (.t p0)), none⟩, ⟨some p139, (.c (.func 116 [(.t p138)])), none⟩, ⟨some p2, (.mov (.t p137)), none⟩, ⟨some p3, (.mov (.t p139)), none⟩])
  .ret))))))), [(.tmp p2), (.tmp p3)]⟩
def d78 : DFn := ⟨34, (.seq (.ops [⟨some p4, (.mov (.c (.nilSlice 0))), none⟩])
  (.seq (.seq (.ops [⟨some p8, (.mov (.t p0)), none⟩, ⟨some p9, (.c (.func 105 [(.t p8)])), none⟩, ⟨some p10, (.p (.un .not (.t p9))), none⟩])
  (.cond (.t p10) (.seq (.ops [⟨some p4, (.mov (.c (.nilSlice 0))), none⟩])
  .ret) .skip))
  (.seq (.ops [⟨some p5, (.mov (.c (.nilSlice 0))), none⟩])
  (.seq (.seq (.ops [⟨some p11, (.mov (.t p0)), none⟩, ⟨some p12, (.p (.nilCheck (.t p11))), none⟩, ⟨some p13, (.p (.fieldAddr 2 (.t p12))), none⟩, ⟨some p14, (.r (.load .one (.t p13))), none⟩, ⟨some p15, (.p (.lenSlice (.t p14))), none⟩, ⟨some p16, (.mov (.c (.int .i64 0))), none⟩])
  (.block 0 (.loop (.seq (.ops [⟨some p17, (.p (.bin .lss .none (.t p16) (.t p15))), none⟩])
  (.seq (.cond (.t p17) .skip (.exit 0))
  (.seq (.block 1 (.seq (.ops [⟨some p18, (.mov (.t p16)), none⟩, ⟨some p19, (.p (.indexAddr 1 (.t p14) (.t p16))), none⟩, ⟨some p20, (.r (.load .one (.t p19))), none⟩, ⟨some p6, (.mov (.t p18)), none⟩, ⟨some p7, (.mov (.t p20)), none⟩])
  (.seq (.ops [⟨some p21, (.mov (.t p0)), none⟩, ⟨some p22, (.c (.func 80 [(.t p21)])), none⟩, ⟨some p23, (.mov (.t p6)), none⟩, ⟨some p24, (.p (.bin .add .none (.t p22) (.t p23))), none⟩, ⟨some p25, (.mov (.t p1)), none⟩, ⟨some p26, (.p (.bin .geq .none (.t p24) (.t p25))), none⟩])
  (.cond (.t p26) (.ops [⟨some p27, (.mov (.t p5)), none⟩, ⟨some p28, (.mov (.t p7)), none⟩, ⟨some p29, (.c (.func 149 [(.t p28)])), none⟩, ⟨some p30, (.e (.buildSlice 26 1 1 [(.nilSlice 0)] [(0, (.t p29))])), none⟩, ⟨some p31, (.e (.append 26 1 24 (.t p27) (.t p30))), none⟩, ⟨some p5, (.mov (.t p31)), none⟩]) .skip))))
  (.ops [⟨some p32, (.p (.bin .add .none (.t p16) (.c (.int .i64 1)))), none⟩, ⟨some p16, (.mov (.t p32)), none⟩])))))))
  (.seq (.ops [⟨some p33, (.mov (.t p5)), none⟩, ⟨some p4, (.mov (.t p33)), none⟩])
  .ret))))), [(.tmp p4)]⟩
def d79 : DFn := ⟨44, (.seq (.ops [⟨some p2, (.mov (.c (.int .i64 0))), none⟩])
  (.seq (.ops [⟨some p4, (.mov (.t p0)), none⟩, ⟨some p5, (.p (.lenSlice (.t p4))), none⟩, ⟨some p6, (.p (.bin .sub .none (.t p5) (.c (.int .i64 1)))), none⟩, ⟨some p3, (.mov (.t p6)), none⟩])
  (.seq (.block 0 (.loop (.seq (.seq (.ops [⟨some p7, (.mov (.t p3)), none⟩, ⟨some p8, (.p (.bin .geq .none (.t p7) (.c (.int .i64 0)))), none⟩, ⟨some p9, (.mov (.t p8)), none⟩, ⟨some p10, (.mov (.t p0)), some (p9, true)⟩, ⟨some p11, (.mov (.t p3)), some (p9, true)⟩, ⟨some p12, (.p (.indexAddr 1 (.t p10) (.t p11))), some (p9, true)⟩, ⟨some p13, (.r (.load .one (.t p12))), some (p9, true)⟩, ⟨some p14, (.c (.func 150 [(.t p13), (.c (.int .u8 3))])), some (p9, true)⟩, ⟨some p15, (.p (.un .not (.t p14))), some (p9, true)⟩, ⟨some p16, (.p (.pick (.t p9) (.t p15) (.c (.bool false)))), none⟩])
  (.cond (.t p16) .skip (.exit 0)))
  (.block 1 (.ops [⟨some p17, (.mov (.t p3)), none⟩, ⟨some p18, (.p (.bin .sub .none (.t p17) (.c (.int .i64 1)))), none⟩, ⟨some p3, (.mov (.t p18)), none⟩])))))
  (.seq (.block 2 (.loop (.seq (.seq (.ops [⟨some p19, (.mov (.t p3)), none⟩, ⟨some p20, (.p (.bin .gtr .none (.t p19) (.c (.int .i64 0)))), none⟩, ⟨some p21, (.mov (.t p20)), none⟩, ⟨some p22, (.mov (.t p0)), some (p21, true)⟩, ⟨some p23, (.mov (.t p3)), some (p21, true)⟩, ⟨some p24, (.p (.bin .sub .none (.t p23) (.c (.int .i64 1)))), some (p21, true)⟩, ⟨some p25, (.p (.indexAddr 1 (.t p22) (.t p24))), some (p21, true)⟩, ⟨some p26, (.r (.load .one (.t p25))), some (p21, true)⟩, ⟨some p27, (.c (.func 150 [(.t p26), (.c (.int .u8 2))])), some (p21, true)⟩, ⟨some p28, (.p (.pick (.t p21) (.t p27) (.c (.bool false)))), none⟩])
  (.cond (.t p28) .skip (.exit 2)))
  (.block 3 (.ops [⟨some p29, (.mov (.t p3)), none⟩, ⟨some p30, (.p (.bin .sub .none (.t p29) (.c (.int .i64 1)))), none⟩, ⟨some p3, (.mov (.t p30)), none⟩])))))
  (.seq (.seq (.ops [⟨some p31, (.mov (.t p3)), none⟩, ⟨some p32, (.p (.bin .gtr .none (.t p31) (.c (.int .i64 0)))), none⟩, ⟨some p33, (.mov (.t p32)), none⟩, ⟨some p34, (.mov (.t p0)), some (p33, true)⟩, ⟨some p35, (.mov (.t p3)), some (p33, true)⟩, ⟨some p36, (.p (.bin .sub .none (.t p35) (.c (.int .i64 1)))), some (p33, true)⟩, ⟨some p37, (.p (.indexAddr 1 (.t p34) (.t p36))), some (p33, true)⟩, ⟨some p38, (.r (.load .one (.t p37))), some (p33, true)⟩, ⟨some p39, (.c (.func 150 [(.t p38), (.c (.int .u8 4))])), some (p33, true)⟩, ⟨some p40, (.p (.pick (.t p33) (.t p39) (.c (.bool false)))), none⟩])
  (.cond (.t p40) (.ops [⟨some p41, (.mov (.t p3)), none⟩, ⟨some p42, (.p (.bin .sub .none (.t p41) (.c (.int .i64 1)))), none⟩, ⟨some p3, (.mov (.t p42)), none⟩]) .skip))
  (.seq (.ops [⟨some p43, (.mov (.t p3)), none⟩, ⟨some p2, (.mov (.t p43)), none⟩])
  .ret)))))), [(.tmp p2)]⟩
def d80 : DFn := ⟨16, (.seq (.ops [⟨some p2, (.mov (.c (.int .i64 0))), none⟩])
  (.seq (.seq (.ops [⟨some p3, (.mov (.t p0)), none⟩, ⟨some p4, (.c (.func 105 [(.t p3)])), none⟩, ⟨some p5, (.p (.un .not (.t p4))), none⟩])
  (.cond (.t p5) (.seq (.ops [⟨some p2, (.mov (.c (.int .i64 0))), none⟩])
  .ret) .skip))
  (.seq (.draw [] [(⟨some p6, (.mov (.t p0)), none⟩, 0, 0), (⟨some p7, (.p (.nilCheck (.t p6))), none⟩, 0, 0), (⟨some p8, (.p (.fieldAddr 3 (.t p7))), none⟩, 0, 0), (⟨some p9, (.r (.load .one (.t p8))), none⟩, 0, 0), (⟨some p10, (.mov (.t p0)), none⟩, 0, 0), (⟨some p11, (.p (.nilCheck (.t p10))), none⟩, 0, 0), (⟨some p12, (.p (.fieldAddr 2 (.t p11))), none⟩, 0, 0), (⟨some p13, (.r (.load .one (.t p12))), none⟩, 0, 0), (⟨some p14, (.p (.lenSlice (.t p13))), none⟩, 0, 0), (⟨some p15, (.p (.bin .sub .none (.t p9) (.t p14))), none⟩, 0, 0), (⟨some p2, (.mov (.t p15)), none⟩, 0, 0)])
  .ret))), [(.tmp p2)]⟩
def d82 : DFn := ⟨125, (.seq (.ops [⟨some p4, (.mov (.c (.str []))), none⟩])
  (.seq (.seq (.ops [⟨some p11, (.mov (.t p1)), none⟩])
  (.block 0 (.seq (.ops [⟨some p13, (.p (.bin .eql .none (.t p11) (.c (.int .i64 0)))), none⟩, ⟨some p12, (.mov (.t p13)), none⟩])
  (.cond (.t p12) (.seq (.ops [⟨some p4, (.mov (.c (.str []))), none⟩])
  .ret) (.seq (.ops [⟨some p15, (.p (.bin .eql .none (.t p11) (.c (.int .i64 1)))), none⟩, ⟨some p14, (.mov (.t p15)), none⟩])
  (.cond (.t p14) (.seq (.ops [⟨some p16, (.mov (.t p0)), none⟩, ⟨some p4, (.mov (.t p16)), none⟩])
  .ret) .skip))))))
  (.seq (.seq (.ops [⟨some p17, (.mov (.t p1)), none⟩, ⟨some p18, (.p (.bin .lss .none (.t p17) (.c (.int .i64 0)))), none⟩])
  (.cond (.t p18) (.ops [⟨some p19, (.p (.mkIface 9 (.c (.str [115, 116, 114, 105, 110, 103, 115, 58, 32, 110, 101, 103, 97, 116, 105, 118, 101, 32, 82, 101, 112, 101, 97, 116, 32, 99, 111, 117, 110, 116])))), none⟩, ⟨none, .stuck, none⟩]) .skip))
  (.seq (.ops [⟨some p21, (.mov (.t p0)), none⟩, ⟨some p22, (.p (.lenStr (.t p21))), none⟩, ⟨some p23, (.p (.toInt .u64 (.t p22))), none⟩, ⟨some p24, (.mov (.t p1)), none⟩, ⟨some p25, (.p (.toInt .u64 (.t p24))), none⟩, ⟨some p26, (.c (.func 155 [(.t p23), (.t p25)])), none⟩, ⟨some p20, (.mov (.t p26)), none⟩, ⟨some p27, (.p (.extract 0 (.t p20))), none⟩, ⟨some p28, (.p (.extract 1 (.t p20))), none⟩, ⟨some p5, (.mov (.t p27)), none⟩, ⟨some p6, (.mov (.t p28)), none⟩])
  (.seq (.seq (.ops [⟨some p29, (.mov (.t p5)), none⟩, ⟨some p30, (.p (.bin .gtr .none (.t p29) (.c (.int .u64 0)))), none⟩, ⟨some p31, (.mov (.t p30)), none⟩, ⟨some p32, (.mov (.t p6)), some (p31, false)⟩, ⟨some p33, (.p (.bin .gtr .none (.t p32) (.c (.int .u64 9223372036854775807)))), some (p31, false)⟩, ⟨some p34, (.p (.pick (.t p31) (.c (.bool true)) (.t p33))), none⟩])
  (.cond (.t p34) (.ops [⟨some p35, (.p (.mkIface 9 (.c (.str [115, 116, 114, 105, 110, 103, 115, 58, 32, 82, 101, 112, 101, 97, 116, 32, 111, 117, 116, 112, 117, 116, 32, 108, 101, 110, 103, 116, 104, 32, 111, 118, 101, 114, 102, 108, 111, 119])))), none⟩, ⟨none, .stuck, none⟩]) .skip))
  (.seq (.ops [⟨some p36, (.mov (.t p6)), none⟩, ⟨some p37, (.p (.toInt .i64 (.t p36))), none⟩, ⟨some p7, (.mov (.t p37)), none⟩])
  (.seq (.seq (.ops [⟨some p38, (.mov (.t p0)), none⟩, ⟨some p39, (.p (.lenStr (.t p38))), none⟩, ⟨some p40, (.p (.bin .eql .none (.t p39) (.c (.int .i64 0)))), none⟩])
  (.cond (.t p40) (.seq (.ops [⟨some p4, (.mov (.c (.str []))), none⟩])
  .ret) .skip))
  (.seq (.seq (.ops [⟨some p41, (.mov (.t p0)), none⟩, ⟨some p42, (.p (.indexStr (.t p41) (.c (.int .i64 0)))), none⟩])
  (.block 1 (.seq (.seq (.ops [⟨some p44, (.p (.bin .eql .none (.t p42) (.c (.int .u8 32)))), none⟩, ⟨some p43, (.mov (.t p44)), none⟩])
  (.cond (.t p43) .skip (.seq (.ops [⟨some p45, (.p (.bin .eql .none (.t p42) (.c (.int .u8 45)))), none⟩, ⟨some p43, (.mov (.t p45)), none⟩])
  (.cond (.t p43) .skip (.seq (.ops [⟨some p46, (.p (.bin .eql .none (.t p42) (.c (.int .u8 48)))), none⟩, ⟨some p43, (.mov (.t p46)), none⟩])
  (.cond (.t p43) .skip (.seq (.ops [⟨some p47, (.p (.bin .eql .none (.t p42) (.c (.int .u8 61)))), none⟩, ⟨some p43, (.mov (.t p47)), none⟩])
  (.cond (.t p43) .skip (.ops [⟨some p48, (.p (.bin .eql .none (.t p42) (.c (.int .u8 9)))), none⟩, ⟨some p43, (.mov (.t p48)), none⟩])))))))))
  (.cond (.t p43) (.block 2 (.seq (.ops [⟨some p50, (.mov (.t p7)), none⟩, ⟨some p51, (.p (.bin .leq .none (.t p50) (.c (.int .i64 128)))), none⟩, ⟨some p52, (.mov (.t p51)), none⟩, ⟨some p53, (.mov (.t p0)), some (p52, true)⟩, ⟨some p54, (.c (.func 156 [(.c (.str [32, 32, 32, 32, 32, 32, 32, 32, 32, 32, 32, 32, 32, 32, 32, 32, 32, 32, 32, 32, 32, 32, 32, 32, 32, 32, 32, 32, 32, 32, 32, 32, 32, 32, 32, 32, 32, 32, 32, 32, 32, 32, 32, 32, 32, 32, 32, 32, 32, 32, 32, 32, 32, 32, 32, 32, 32, 32, 32, 32, 32, 32, 32, 32, 32, 32, 32, 32, 32, 32, 32, 32, 32, 32, 32, 32, 32, 32, 32, 32, 32, 32, 32, 32, 32, 32, 32, 32, 32, 32, 32, 32, 32, 32, 32, 32, 32, 32, 32, 32, 32, 32, 32, 32, 32, 32, 32, 32, 32, 32, 32, 32, 32, 32, 32, 32, 32, 32, 32, 32, 32, 32, 32, 32, 32, 32, 32, 32])), (.t p53)])), some (p52, true)⟩, ⟨some p55, (.p (.pick (.t p52) (.t p54) (.c (.bool false)))), none⟩, ⟨some p49, (.mov (.t p55)), none⟩])
  (.cond (.t p49) (.seq (.ops [⟨some p56, (.mov (.t p7)), none⟩, ⟨some p57, (.p (.sliceStr (.c (.str [32, 32, 32, 32, 32, 32, 32, 32, 32, 32, 32, 32, 32, 32, 32, 32, 32, 32, 32, 32, 32, 32, 32, 32, 32, 32, 32, 32, 32, 32, 32, 32, 32, 32, 32, 32, 32, 32, 32, 32, 32, 32, 32, 32, 32, 32, 32, 32, 32, 32, 32, 32, 32, 32, 32, 32, 32, 32, 32, 32, 32, 32, 32, 32, 32, 32, 32, 32, 32, 32, 32, 32, 32, 32, 32, 32, 32, 32, 32, 32, 32, 32, 32, 32, 32, 32, 32, 32, 32, 32, 32, 32, 32, 32, 32, 32, 32, 32, 32, 32, 32, 32, 32, 32, 32, 32, 32, 32, 32, 32, 32, 32, 32, 32, 32, 32, 32, 32, 32, 32, 32, 32, 32, 32, 32, 32, 32, 32])) none (some (.t p56)))), none⟩, ⟨some p4, (.mov (.t p57)), none⟩])
  .ret) (.seq (.ops [⟨some p59, (.mov (.t p7)), none⟩, ⟨some p60, (.p (.bin .leq .none (.t p59) (.c (.int .i64 128)))), none⟩, ⟨some p61, (.mov (.t p60)), none⟩, ⟨some p62, (.mov (.t p0)), some (p61, true)⟩, ⟨some p63, (.c (.func 156 [(.c (.str [45, 45, 45, 45, 45, 45, 45, 45, 45, 45, 45, 45, 45, 45, 45, 45, 45, 45, 45, 45, 45, 45, 45, 45, 45, 45, 45, 45, 45, 45, 45, 45, 45, 45, 45, 45, 45, 45, 45, 45, 45, 45, 45, 45, 45, 45, 45, 45, 45, 45, 45, 45, 45, 45, 45, 45, 45, 45, 45, 45, 45, 45, 45, 45, 45, 45, 45, 45, 45, 45, 45, 45, 45, 45, 45, 45, 45, 45, 45, 45, 45, 45, 45, 45, 45, 45, 45, 45, 45, 45, 45, 45, 45, 45, 45, 45, 45, 45, 45, 45, 45, 45, 45, 45, 45, 45, 45, 45, 45, 45, 45, 45, 45, 45, 45, 45, 45, 45, 45, 45, 45, 45, 45, 45, 45, 45, 45, 45])), (.t p62)])), some (p61, true)⟩, ⟨some p64, (.p (.pick (.t p61) (.t p63) (.c (.bool false)))), none⟩, ⟨some p58, (.mov (.t p64)), none⟩])
  (.cond (.t p58) (.seq (.ops [⟨some p65, (.mov (.t p7)), none⟩, ⟨some p66, (.p (.sliceStr (.c (.str [45, 45, 45, 45, 45, 45, 45, 45, 45, 45, 45, 45, 45, 45, 45, 45, 45, 45, 45, 45, 45, 45, 45, 45, 45, 45, 45, 45, 45, 45, 45, 45, 45, 45, 45, 45, 45, 45, 45, 45, 45, 45, 45, 45, 45, 45, 45, 45, 45, 45, 45, 45, 45, 45, 45, 45, 45, 45, 45, 45, 45, 45, 45, 45, 45, 45, 45, 45, 45, 45, 45, 45, 45, 45, 45, 45, 45, 45, 45, 45, 45, 45, 45, 45, 45, 45, 45, 45, 45, 45, 45, 45, 45, 45, 45, 45, 45, 45, 45, 45, 45, 45, 45, 45, 45, 45, 45, 45, 45, 45, 45, 45, 45, 45, 45, 45, 45, 45, 45, 45, 45, 45, 45, 45, 45, 45, 45, 45])) none (some (.t p65)))), none⟩, ⟨some p4, (.mov (.t p66)), none⟩])
  .ret) (.seq (.ops [⟨some p68, (.mov (.t p7)), none⟩, ⟨some p69, (.p (.bin .leq .none (.t p68) (.c (.int .i64 64)))), none⟩, ⟨some p70, (.mov (.t p69)), none⟩, ⟨some p71, (.mov (.t p0)), some (p70, true)⟩, ⟨some p72, (.c (.func 156 [(.c (.str [48, 48, 48, 48, 48, 48, 48, 48, 48, 48, 48, 48, 48, 48, 48, 48, 48, 48, 48, 48, 48, 48, 48, 48, 48, 48, 48, 48, 48, 48, 48, 48, 48, 48, 48, 48, 48, 48, 48, 48, 48, 48, 48, 48, 48, 48, 48, 48, 48, 48, 48, 48, 48, 48, 48, 48, 48, 48, 48, 48, 48, 48, 48, 48])), (.t p71)])), some (p70, true)⟩, ⟨some p73, (.p (.pick (.t p70) (.t p72) (.c (.bool false)))), none⟩, ⟨some p67, (.mov (.t p73)), none⟩])
  (.cond (.t p67) (.seq (.ops [⟨some p74, (.mov (.t p7)), none⟩, ⟨some p75, (.p (.sliceStr (.c (.str [48, 48, 48, 48, 48, 48, 48, 48, 48, 48, 48, 48, 48, 48, 48, 48, 48, 48, 48, 48, 48, 48, 48, 48, 48, 48, 48, 48, 48, 48, 48, 48, 48, 48, 48, 48, 48, 48, 48, 48, 48, 48, 48, 48, 48, 48, 48, 48, 48, 48, 48, 48, 48, 48, 48, 48, 48, 48, 48, 48, 48, 48, 48, 48])) none (some (.t p74)))), none⟩, ⟨some p4, (.mov (.t p75)), none⟩])
  .ret) (.seq (.ops [⟨some p77, (.mov (.t p7)), none⟩, ⟨some p78, (.p (.bin .leq .none (.t p77) (.c (.int .i64 128)))), none⟩, ⟨some p79, (.mov (.t p78)), none⟩, ⟨some p80, (.mov (.t p0)), some (p79, true)⟩, ⟨some p81, (.c (.func 156 [(.c (.str [61, 61, 61, 61, 61, 61, 61, 61, 61, 61, 61, 61, 61, 61, 61, 61, 61, 61, 61, 61, 61, 61, 61, 61, 61, 61, 61, 61, 61, 61, 61, 61, 61, 61, 61, 61, 61, 61, 61, 61, 61, 61, 61, 61, 61, 61, 61, 61, 61, 61, 61, 61, 61, 61, 61, 61, 61, 61, 61, 61, 61, 61, 61, 61, 61, 61, 61, 61, 61, 61, 61, 61, 61, 61, 61, 61, 61, 61, 61, 61, 61, 61, 61, 61, 61, 61, 61, 61, 61, 61, 61, 61, 61, 61, 61, 61, 61, 61, 61, 61, 61, 61, 61, 61, 61, 61, 61, 61, 61, 61, 61, 61, 61, 61, 61, 61, 61, 61, 61, 61, 61, 61, 61, 61, 61, 61, 61, 61])), (.t p80)])), some (p79, true)⟩, ⟨some p82, (.p (.pick (.t p79) (.t p81) (.c (.bool false)))), none⟩, ⟨some p76, (.mov (.t p82)), none⟩])
  (.cond (.t p76) (.seq (.ops [⟨some p83, (.mov (.t p7)), none⟩, ⟨some p84, (.p (.sliceStr (.c (.str [61, 61, 61, 61, 61, 61, 61, 61, 61, 61, 61, 61, 61, 61, 61, 61, 61, 61, 61, 61, 61, 61, 61, 61, 61, 61, 61, 61, 61, 61, 61, 61, 61, 61, 61, 61, 61, 61, 61, 61, 61, 61, 61, 61, 61, 61, 61, 61, 61, 61, 61, 61, 61, 61, 61, 61, 61, 61, 61, 61, 61, 61, 61, 61, 61, 61, 61, 61, 61, 61, 61, 61, 61, 61, 61, 61, 61, 61, 61, 61, 61, 61, 61, 61, 61, 61, 61, 61, 61, 61, 61, 61, 61, 61, 61, 61, 61, 61, 61, 61, 61, 61, 61, 61, 61, 61, 61, 61, 61, 61, 61, 61, 61, 61, 61, 61, 61, 61, 61, 61, 61, 61, 61, 61, 61, 61, 61, 61])) none (some (.t p83)))), none⟩, ⟨some p4, (.mov (.t p84)), none⟩])
  .ret) (.seq (.ops [⟨some p86, (.mov (.t p7)), none⟩, ⟨some p87, (.p (.bin .leq .none (.t p86) (.c (.int .i64 64)))), none⟩, ⟨some p88, (.mov (.t p87)), none⟩, ⟨some p89, (.mov (.t p0)), some (p88, true)⟩, ⟨some p90, (.c (.func 156 [(.c (.str [9, 9, 9, 9, 9, 9, 9, 9, 9, 9, 9, 9, 9, 9, 9, 9, 9, 9, 9, 9, 9, 9, 9, 9, 9, 9, 9, 9, 9, 9, 9, 9, 9, 9, 9, 9, 9, 9, 9, 9, 9, 9, 9, 9, 9, 9, 9, 9, 9, 9, 9, 9, 9, 9, 9, 9, 9, 9, 9, 9, 9, 9, 9, 9])), (.t p89)])), some (p88, true)⟩, ⟨some p91, (.p (.pick (.t p88) (.t p90) (.c (.bool false)))), none⟩, ⟨some p85, (.mov (.t p91)), none⟩])
  (.cond (.t p85) (.seq (.ops [⟨some p92, (.mov (.t p7)), none⟩, ⟨some p93, (.p (.sliceStr (.c (.str [9, 9, 9, 9, 9, 9, 9, 9, 9, 9, 9, 9, 9, 9, 9, 9, 9, 9, 9, 9, 9, 9, 9, 9, 9, 9, 9, 9, 9, 9, 9, 9, 9, 9, 9, 9, 9, 9, 9, 9, 9, 9, 9, 9, 9, 9, 9, 9, 9, 9, 9, 9, 9, 9, 9, 9, 9, 9, 9, 9, 9, 9, 9, 9])) none (some (.t p92)))), none⟩, ⟨some p4, (.mov (.t p93)), none⟩])
  .ret) .skip))))))))))) .skip))))
  (.seq (.ops [⟨some p94, (.mov (.t p7)), none⟩, ⟨some p8, (.mov (.t p94)), none⟩])
  (.seq (.seq (.ops [⟨some p95, (.mov (.t p7)), none⟩, ⟨some p96, (.p (.bin .gtr .none (.t p95) (.c (.int .i64 8192)))), none⟩])
  (.cond (.t p96) (.seq (.ops [⟨some p97, (.mov (.t p0)), none⟩, ⟨some p98, (.p (.lenStr (.t p97))), none⟩, ⟨some p99, (.p (.bin .quo .none (.c (.int .i64 8192)) (.t p98))), none⟩, ⟨some p100, (.mov (.t p0)), none⟩, ⟨some p101, (.p (.lenStr (.t p100))), none⟩, ⟨some p102, (.p (.bin .mul .none (.t p99) (.t p101))), none⟩, ⟨some p8, (.mov (.t p102)), none⟩])
  (.seq (.ops [⟨some p103, (.mov (.t p8)), none⟩, ⟨some p104, (.p (.bin .eql .none (.t p103) (.c (.int .i64 0)))), none⟩])
  (.cond (.t p104) (.ops [⟨some p105, (.mov (.t p0)), none⟩, ⟨some p106, (.p (.lenStr (.t p105))), none⟩, ⟨some p8, (.mov (.t p106)), none⟩]) .skip))) .skip))
  (.seq (.ops [⟨some p9, (.e (.alloc 257 [.nilPtr, (.nilSlice 0)])), none⟩])
  (.seq (.ops [⟨some p107, (.mov (.t p7)), none⟩, ⟨some p108, (.c (.func 157 [(.t p9), (.t p107)])), none⟩])
  (.seq (.ops [⟨some p109, (.mov (.t p0)), none⟩, ⟨some p110, (.c (.func 158 [(.t p9), (.t p109)])), none⟩])
  (.seq (.block 3 (.loop (.seq (.seq (.ops [⟨some p111, (.c (.func 159 [(.t p9)])), none⟩, ⟨some p112, (.mov (.t p7)), none⟩, ⟨some p113, (.p (.bin .lss .none (.t p111) (.t p112))), none⟩])
  (.cond (.t p113) .skip (.exit 3)))
  (.block 4 (.seq (.ops [⟨some p114, (.mov (.t p7)), none⟩, ⟨some p115, (.c (.func 159 [(.t p9)])), none⟩, ⟨some p116, (.p (.bin .sub .none (.t p114) (.t p115))), none⟩, ⟨some p117, (.c (.func 159 [(.t p9)])), none⟩, ⟨some p118, (.mov (.t p8)), none⟩, ⟨some p119, .stuck, none⟩, ⟨some p10, (.mov (.t p119)), none⟩])
  (.ops [⟨some p120, (.c (.func 160 [(.t p9)])), none⟩, ⟨some p121, (.mov (.t p10)), none⟩, ⟨some p122, (.p (.sliceStr (.t p120) none (some (.t p121)))), none⟩, ⟨some p123, (.c (.func 158 [(.t p9), (.t p122)])), none⟩]))))))
  (.seq (.ops [⟨some p124, (.c (.func 160 [(.t p9)])), none⟩, ⟨some p4, (.mov (.t p124)), none⟩])
  .ret))))))))))))))), [(.tmp p4)]⟩
def d85 : DFn := ⟨17, (.seq (.ops [⟨some p1, (.e (.box 65 (.t p0))), none⟩, ⟨some p2, (.mov (.c (.bool false))), none⟩])
  (.seq (.ops [⟨some p3, (.p (.fieldAddr 0 (.t p1))), none⟩, ⟨some p4, (.r (.load .one (.t p3))), none⟩, ⟨some p5, (.c (.func 42 [(.t p4)])), none⟩, ⟨some p6, (.mov (.t p5)), none⟩, ⟨some p7, (.p (.fieldAddr 1 (.t p1))), some (p6, true)⟩, ⟨some p8, (.r (.load .one (.t p7))), some (p6, true)⟩, ⟨some p9, (.p (.bin .geq .none (.t p8) (.c (.int .i64 1)))), some (p6, true)⟩, ⟨some p10, (.p (.pick (.t p6) (.t p9) (.c (.bool false)))), none⟩, ⟨some p11, (.mov (.t p10)), none⟩, ⟨some p12, (.p (.fieldAddr 2 (.t p1))), some (p11, true)⟩, ⟨some p13, (.r (.load (.many 4) (.t p12))), some (p11, true)⟩, ⟨some p14, (.c (.func 93 [(.t p13)])), some (p11, true)⟩, ⟨some p15, (.p (.bin .lss .none (.t p14) (.c (.int .i64 0)))), some (p11, true)⟩, ⟨some p16, (.p (.pick (.t p11) (.t p15) (.c (.bool false)))), none⟩, ⟨some p2, (.mov (.t p16)), none⟩])
  .ret)), [(.tmp p2)]⟩
def d86 : DFn := ⟨21, (.seq (.ops [⟨some p5, (.e (.box 63 (.t p2))), none⟩, ⟨some p6, (.mov (.c (.nilSlice 0))), none⟩, ⟨some p7, (.mov (.c .nilIface)), none⟩])
  (.seq (.ops [⟨some p11, (.mov (.t p0)), none⟩, ⟨some p12, (.mov (.t p1)), none⟩, ⟨some p13, (.r (.load (.many 4) (.t p5))), none⟩, ⟨some p14, (.c (.func 46 [(.t p11), (.t p12), (.t p13)])), none⟩, ⟨some p10, (.mov (.t p14)), none⟩, ⟨some p15, (.p (.extract 0 (.t p10))), none⟩, ⟨some p16, (.p (.extract 1 (.t p10))), none⟩, ⟨some p8, (.mov (.t p15)), none⟩, ⟨some p9, (.mov (.t p16)), none⟩])
  (.seq (.ops [⟨some p17, (.mov (.t p0)), none⟩, ⟨some p18, (.mov (.t p8)), none⟩, ⟨some p19, (.c (.func 167 [(.t p17), (.t p18)])), none⟩, ⟨some p20, (.mov (.t p9)), none⟩, ⟨some p6, (.mov (.t p19)), none⟩, ⟨some p7, (.mov (.t p20)), none⟩])
  .ret))), [(.tmp p6), (.tmp p7)]⟩
def d87 : DFn := ⟨41, (.seq (.ops [⟨some p4, (.mov (.c (.nilSlice 0))), none⟩])
  (.seq (.seq (.ops [⟨some p8, (.mov (.t p0)), none⟩, ⟨some p9, (.c (.func 49 [(.t p8)])), none⟩, ⟨some p10, (.p (.un .not (.t p9))), none⟩])
  (.cond (.t p10) (.seq (.ops [⟨some p4, (.mov (.c (.nilSlice 0))), none⟩])
  .ret) .skip))
  (.seq (.ops [⟨some p5, (.mov (.c (.nilSlice 0))), none⟩])
  (.seq (.seq (.ops [⟨some p11, (.mov (.t p0)), none⟩, ⟨some p12, (.p (.nilCheck (.t p11))), none⟩, ⟨some p13, (.p (.fieldAddr 3 (.t p12))), none⟩, ⟨some p14, (.r (.load .one (.t p13))), none⟩, ⟨some p15, (.c (.func 169 [(.t p14)])), none⟩, ⟨some p16, (.c (.func 168 [(.t p15)])), none⟩, ⟨some p17, (.p (.lenSlice (.t p16))), none⟩, ⟨some p18, (.mov (.c (.int .i64 0))), none⟩])
  (.block 0 (.loop (.seq (.ops [⟨some p19, (.p (.bin .lss .none (.t p18) (.t p17))), none⟩])
  (.seq (.cond (.t p19) .skip (.exit 0))
  (.seq (.block 1 (.seq (.ops [⟨some p20, (.p (.indexAddr 1 (.t p16) (.t p18))), none⟩, ⟨some p21, (.r (.load .one (.t p20))), none⟩, ⟨some p7, (.mov (.t p21)), none⟩])
  (.seq (.ops [⟨some p22, (.mov (.t p1)), none⟩, ⟨some p23, (.mov (.t p0)), none⟩, ⟨some p24, (.p (.nilCheck (.t p23))), none⟩, ⟨some p25, (.p (.fieldAddr 3 (.t p24))), none⟩, ⟨some p26, (.r (.load .one (.t p25))), none⟩, ⟨some p27, (.mov (.t p7)), none⟩, ⟨some p28, (.r (.lookup .str (.agg [(.str []), (.bool false), (.str []), (.int .i64 0)]) false (.t p26) (.t p27))), none⟩, ⟨some p29, (.c (.value (.t p22) [(.t p28)])), none⟩])
  (.cond (.t p29) (.ops [⟨some p30, (.mov (.t p5)), none⟩, ⟨some p31, (.mov (.t p0)), none⟩, ⟨some p32, (.p (.nilCheck (.t p31))), none⟩, ⟨some p33, (.p (.fieldAddr 3 (.t p32))), none⟩, ⟨some p34, (.r (.load .one (.t p33))), none⟩, ⟨some p35, (.mov (.t p7)), none⟩, ⟨some p36, (.r (.lookup .str (.agg [(.str []), (.bool false), (.str []), (.int .i64 0)]) false (.t p34) (.t p35))), none⟩, ⟨some p37, (.e (.buildSlice 83 4 1 [(.str []), (.bool false), (.str []), (.int .i64 0)] [(0, (.t p36))])), none⟩, ⟨some p38, (.e (.append 83 4 48 (.t p30) (.t p37))), none⟩, ⟨some p5, (.mov (.t p38)), none⟩]) .skip))))
  (.ops [⟨some p39, (.p (.bin .add .none (.t p18) (.c (.int .i64 1)))), none⟩, ⟨some p18, (.mov (.t p39)), none⟩])))))))
  (.seq (.ops [⟨some p40, (.mov (.t p5)), none⟩, ⟨some p4, (.mov (.t p40)), none⟩])
  .ret))))), [(.tmp p4)]⟩
def d89 : DFn := ⟨16, (.seq (.ops [⟨some p2, (.mov (.c .nilPtr)), none⟩, ⟨some p3, (.mov (.c (.int .i64 0))), none⟩])
  (.seq (.seq (.ops [⟨some p4, (.mov (.t p0)), none⟩, ⟨some p5, (.p (.bin .lss .none (.t p4) (.c (.int .i64 0)))), none⟩, ⟨some p6, (.mov (.t p5)), none⟩, ⟨some p7, (.mov (.t p0)), some (p6, false)⟩, ⟨some p8, (.p (.bin .gtr .none (.t p7) (.c (.int .i64 16777216)))), some (p6, false)⟩, ⟨some p9, (.p (.pick (.t p6) (.c (.bool true)) (.t p8))), none⟩])
  (.cond (.t p9) (.seq (.ops [⟨some p2, (.mov (.c .nilPtr)), none⟩, ⟨some p3, (.mov (.c (.int .i64 1))), none⟩])
  .ret) .skip))
  (.seq (.ops [⟨some p10, (.mov (.t p0)), none⟩, ⟨some p11, (.e .makeMap), none⟩, ⟨some p12, (.e .makeMap), none⟩, ⟨some p13, (.e .makeMap), none⟩, ⟨some p14, (.p (.build [(.int .i64 0), .nilMap, .nilMap, (.nilSlice 0), .nilMap] [(0, 1, (.t p10)), (1, 1, (.t p11)), (2, 1, (.t p12)), (4, 1, (.t p13))])), none⟩, ⟨some p15, (.e (.box 55 (.t p14))), none⟩, ⟨some p2, (.mov (.t p15)), none⟩, ⟨some p3, (.mov (.c (.int .i64 0))), none⟩])
  .ret))), [(.tmp p2), (.tmp p3)]⟩
def d90 : DFn := ⟨16, (.seq (.ops [⟨some p1, (.e (.box 169 (.t p0))), none⟩, ⟨some p2, (.mov (.c (.str []))), none⟩, ⟨some p3, (.mov (.c (.int .i64 0))), none⟩])
  (.seq (.seq (.ops [⟨some p6, (.r (.load (.many 5) (.t p1))), none⟩, ⟨some p7, (.c (.func 170 [(.t p6)])), none⟩, ⟨some p4, (.mov (.t p7)), none⟩])
  (.seq (.ops [⟨some p8, (.mov (.t p4)), none⟩, ⟨some p9, (.p (.bin .neq .none (.t p8) (.c (.int .i64 0)))), none⟩])
  (.cond (.t p9) (.seq (.ops [⟨some p10, (.mov (.t p4)), none⟩, ⟨some p2, (.mov (.c (.str []))), none⟩, ⟨some p3, (.mov (.t p10)), none⟩])
  .ret) .skip)))
  (.seq (.ops [⟨some p5, (.e (.alloc 257 [.nilPtr, (.nilSlice 0)])), none⟩])
  (.seq (.ops [⟨some p11, (.r (.load (.many 5) (.t p1))), none⟩, ⟨some p12, (.c (.func 171 [(.t p5), (.t p11)])), none⟩])
  (.seq (.seq (.ops [⟨some p13, (.c (.func 159 [(.t p5)])), none⟩, ⟨some p14, (.p (.bin .gtr .none (.t p13) (.c (.int .i64 65536)))), none⟩])
  (.cond (.t p14) (.seq (.ops [⟨some p2, (.mov (.c (.str []))), none⟩, ⟨some p3, (.mov (.c (.int .i64 4))), none⟩])
  .ret) .skip))
  (.seq (.ops [⟨some p15, (.c (.func 160 [(.t p5)])), none⟩, ⟨some p2, (.mov (.t p15)), none⟩, ⟨some p3, (.mov (.c (.int .i64 0))), none⟩])
  .ret)))))), [(.tmp p2), (.tmp p3)]⟩
def d91 : DFn := ⟨17, (.seq (.ops [⟨some p1, (.e (.box 65 (.t p0))), none⟩, ⟨some p2, (.e (.alloc 169 [(.int .i64 0), (.int .i64 0), (.str []), (.nilSlice 0), (.nilSlice 0)])), none⟩])
  (.seq (.draw [] [(⟨some p3, (.p (.fieldAddr 0 (.t p1))), none⟩, 0, 0), (⟨some p4, (.r (.load .one (.t p3))), none⟩, 0, 0), (⟨some p5, (.c (.func 125 [(.t p4)])), none⟩, 0, 1), (⟨some p6, (.p (.build [(.str []), (.int .i64 0), (.int .i64 0), (.str []), (.nilSlice 0), (.nilSlice 0)] [(0, 1, (.c (.str [99, 108, 105, 101, 110, 116]))), (1, 5, (.t p5))])), none⟩, 1, 3), (⟨some p7, (.p (.fieldAddr 1 (.t p1))), none⟩, 0, 1), (⟨some p8, (.r (.load .one (.t p7))), none⟩, 0, 1), (⟨some p9, (.c (.func 127 [(.t p8)])), none⟩, 1, 2), (⟨some p10, (.p (.build [(.str []), (.int .i64 0), (.int .i64 0), (.str []), (.nilSlice 0), (.nilSlice 0)] [(0, 1, (.c (.str [105, 100]))), (1, 5, (.t p9))])), none⟩, 2, 3), (⟨some p11, (.p (.fieldAddr 2 (.t p1))), none⟩, 0, 2), (⟨some p12, (.r (.load (.many 4) (.t p11))), none⟩, 0, 2), (⟨some p13, (.c (.func 172 [(.t p12)])), none⟩, 2, 3), (⟨some p14, (.p (.build [(.str []), (.int .i64 0), (.int .i64 0), (.str []), (.nilSlice 0), (.nilSlice 0)] [(0, 1, (.c (.str [109]))), (1, 5, (.t p13))])), none⟩, 3, 3), (⟨some p15, (.e (.buildSlice 223 6 3 [(.str []), (.int .i64 0), (.int .i64 0), (.str []), (.nilSlice 0), (.nilSlice 0), (.str []), (.int .i64 0), (.int .i64 0), (.str []), (.nilSlice 0), (.nilSlice 0), (.str []), (.int .i64 0), (.int .i64 0), (.str []), (.nilSlice 0), (.nilSlice 0)] [(0, (.t p6)), (1, (.t p10)), (2, (.t p14))])), none⟩, 3, 4), (⟨some p16, (.c (.func 128 [(.t p15)])), none⟩, 4, 5), (⟨none, (.e (.store 5 (.t p2) (.t p16))), none⟩, 5, 6)])
  .ret)), [(.cell p2 (.many 5))]⟩
def d93 : DFn := ⟨86, (.seq (.ops [⟨some p1, (.e (.box 63 (.t p0))), none⟩, ⟨some p2, (.mov (.c (.int .i64 0))), none⟩])
  (.seq (.seq (.ops [⟨some p5, (.p (.fieldAddr 0 (.t p1))), none⟩, ⟨some p6, (.r (.load .one (.t p5))), none⟩, ⟨some p7, (.p (.bin .lss .none (.t p6) (.c (.int .i64 1)))), none⟩, ⟨some p8, (.mov (.t p7)), none⟩, ⟨some p9, (.p (.fieldAddr 0 (.t p1))), some (p8, false)⟩, ⟨some p10, (.r (.load .one (.t p9))), some (p8, false)⟩, ⟨some p11, (.p (.bin .gtr .none (.t p10) (.c (.int .i64 10)))), some (p8, false)⟩, ⟨some p12, (.p (.pick (.t p8) (.c (.bool true)) (.t p11))), none⟩])
  (.cond (.t p12) (.seq (.ops [⟨some p2, (.mov (.c (.int .i64 0))), none⟩])
  .ret) .skip))
  (.seq (.seq (.ops [⟨some p13, (.p (.fieldAddr 1 (.t p1))), none⟩, ⟨some p14, (.r (.load .one (.t p13))), none⟩, ⟨some p15, (.c (.func 42 [(.t p14)])), none⟩, ⟨some p16, (.p (.un .not (.t p15))), none⟩])
  (.cond (.t p16) (.seq (.ops [⟨some p2, (.mov (.c (.int .i64 1))), none⟩])
  .ret) .skip))
  (.seq (.ops [⟨some p3, (.mov (.c (.bool false))), none⟩, ⟨some p4, (.mov (.c (.bool false))), none⟩])
  (.seq (.seq (.ops [⟨some p17, (.p (.fieldAddr 0 (.t p1))), none⟩, ⟨some p18, (.r (.load .one (.t p17))), none⟩])
  (.block 0 (.seq (.block 3 (.seq (.block 2 (.seq (.block 1 (.seq (.seq (.seq (.seq (.ops [⟨some p20, (.p (.bin .eql .none (.t p18) (.c (.int .i64 5)))), none⟩, ⟨some p19, (.mov (.t p20)), none⟩])
  (.cond (.t p19) .skip (.ops [⟨some p21, (.p (.bin .eql .none (.t p18) (.c (.int .i64 6)))), none⟩, ⟨some p19, (.mov (.t p21)), none⟩])))
  (.cond (.t p19) (.exit 1) .skip))
  (.seq (.seq (.seq (.ops [⟨some p23, (.p (.bin .eql .none (.t p18) (.c (.int .i64 7)))), none⟩, ⟨some p22, (.mov (.t p23)), none⟩])
  (.cond (.t p22) .skip (.seq (.ops [⟨some p24, (.p (.bin .eql .none (.t p18) (.c (.int .i64 8)))), none⟩, ⟨some p22, (.mov (.t p24)), none⟩])
  (.cond (.t p22) .skip (.ops [⟨some p25, (.p (.bin .eql .none (.t p18) (.c (.int .i64 9)))), none⟩, ⟨some p22, (.mov (.t p25)), none⟩])))))
  (.cond (.t p22) (.exit 2) .skip))
  (.seq (.seq (.ops [⟨some p27, (.p (.bin .eql .none (.t p18) (.c (.int .i64 1)))), none⟩, ⟨some p26, (.mov (.t p27)), none⟩])
  (.cond (.t p26) .skip (.ops [⟨some p28, (.p (.bin .eql .none (.t p18) (.c (.int .i64 2)))), none⟩, ⟨some p26, (.mov (.t p28)), none⟩])))
  (.cond (.t p26) (.exit 3) .skip))))
  (.exit 0)))
  (.ops [⟨some p4, (.mov (.c (.bool true))), none⟩])))
  (.seq (.ops [⟨some p3, (.mov (.c (.bool true))), none⟩])
  (.exit 0))))
  (.seq (.ops [⟨some p4, (.mov (.c (.bool true))), none⟩])
  (.exit 0)))))
  (.seq (.block 4 (.seq (.ops [⟨some p30, (.p (.fieldAddr 0 (.t p1))), none⟩, ⟨some p31, (.r (.load .one (.t p30))), none⟩, ⟨some p32, (.p (.bin .eql .none (.t p31) (.c (.int .i64 4)))), none⟩, ⟨some p29, (.mov (.t p32)), none⟩])
  (.cond (.t p29) (.seq (.ops [⟨some p33, (.p (.fieldAddr 2 (.t p1))), none⟩, ⟨some p34, (.r (.load .one (.t p33))), none⟩, ⟨some p35, (.p (.bin .neq .none (.t p34) (.c (.str [])))), none⟩, ⟨some p36, (.mov (.t p35)), none⟩, ⟨some p37, (.p (.fieldAddr 2 (.t p1))), some (p36, true)⟩, ⟨some p38, (.r (.load .one (.t p37))), some (p36, true)⟩, ⟨some p39, (.c (.func 42 [(.t p38)])), some (p36, true)⟩, ⟨some p40, (.p (.un .not (.t p39))), some (p36, true)⟩, ⟨some p41, (.p (.pick (.t p36) (.t p40) (.c (.bool false)))), none⟩])
  (.cond (.t p41) (.seq (.ops [⟨some p2, (.mov (.c (.int .i64 2))), none⟩])
  .ret) .skip)) (.seq (.ops [⟨some p43, (.mov (.t p3)), none⟩, ⟨some p44, (.p (.fieldAddr 2 (.t p1))), none⟩, ⟨some p45, (.r (.load .one (.t p44))), none⟩, ⟨some p46, (.c (.func 42 [(.t p45)])), none⟩, ⟨some p47, (.p (.bin .neq .bool (.t p43) (.t p46))), none⟩, ⟨some p48, (.mov (.t p47)), none⟩, ⟨some p49, (.mov (.t p3)), some (p48, false)⟩, ⟨some p50, (.p (.un .not (.t p49))), some (p48, false)⟩, ⟨some p51, (.mov (.t p50)), some (p48, false)⟩, ⟨some p52, (.p (.fieldAddr 2 (.t p1))), some (p51, true)⟩, ⟨some p53, (.r (.load .one (.t p52))), some (p51, true)⟩, ⟨some p54, (.p (.bin .neq .none (.t p53) (.c (.str [])))), some (p51, true)⟩, ⟨some p55, (.p (.pick (.t p51) (.t p54) (.c (.bool false)))), some (p48, false)⟩, ⟨some p56, (.p (.pick (.t p48) (.c (.bool true)) (.t p55))), none⟩, ⟨some p42, (.mov (.t p56)), none⟩])
  (.cond (.t p42) (.seq (.ops [⟨some p2, (.mov (.c (.int .i64 2))), none⟩])
  .ret) .skip)))))
  (.seq (.block 5 (.seq (.ops [⟨some p58, (.p (.fieldAddr 0 (.t p1))), none⟩, ⟨some p59, (.r (.load .one (.t p58))), none⟩, ⟨some p60, (.p (.bin .eql .none (.t p59) (.c (.int .i64 3)))), none⟩, ⟨some p57, (.mov (.t p60)), none⟩])
  (.cond (.t p57) (.seq (.ops [⟨some p61, (.p (.fieldAddr 3 (.t p1))), none⟩, ⟨some p62, (.r (.load .one (.t p61))), none⟩, ⟨some p63, (.p (.bin .neq .none (.t p62) (.c (.str [111, 112, 101, 110])))), none⟩, ⟨some p64, (.mov (.t p63)), none⟩, ⟨some p65, (.p (.fieldAddr 3 (.t p1))), some (p64, true)⟩, ⟨some p66, (.r (.load .one (.t p65))), some (p64, true)⟩, ⟨some p67, (.p (.bin .neq .none (.t p66) (.c (.str [99, 108, 111, 115, 101, 100])))), some (p64, true)⟩, ⟨some p68, (.p (.pick (.t p64) (.t p67) (.c (.bool false)))), none⟩])
  (.cond (.t p68) (.seq (.ops [⟨some p2, (.mov (.c (.int .i64 3))), none⟩])
  .ret) .skip)) (.seq (.ops [⟨some p70, (.mov (.t p4)), none⟩, ⟨some p71, (.mov (.t p70)), none⟩, ⟨some p72, (.p (.fieldAddr 3 (.t p1))), some (p71, true)⟩, ⟨some p73, (.r (.load .one (.t p72))), some (p71, true)⟩, ⟨some p74, (.c (.func 173 [(.t p73)])), some (p71, true)⟩, ⟨some p75, (.p (.un .not (.t p74))), some (p71, true)⟩, ⟨some p76, (.p (.pick (.t p71) (.t p75) (.c (.bool false)))), none⟩, ⟨some p77, (.mov (.t p76)), none⟩, ⟨some p78, (.mov (.t p4)), some (p77, false)⟩, ⟨some p79, (.p (.un .not (.t p78))), some (p77, false)⟩, ⟨some p80, (.mov (.t p79)), some (p77, false)⟩, ⟨some p81, (.p (.fieldAddr 3 (.t p1))), some (p80, true)⟩, ⟨some p82, (.r (.load .one (.t p81))), some (p80, true)⟩, ⟨some p83, (.p (.bin .neq .none (.t p82) (.c (.str [])))), some (p80, true)⟩, ⟨some p84, (.p (.pick (.t p80) (.t p83) (.c (.bool false)))), some (p77, false)⟩, ⟨some p85, (.p (.pick (.t p77) (.c (.bool true)) (.t p84))), none⟩, ⟨some p69, (.mov (.t p85)), none⟩])
  (.cond (.t p69) (.seq (.ops [⟨some p2, (.mov (.c (.int .i64 3))), none⟩])
  .ret) .skip)))))
  (.seq (.ops [⟨some p2, (.mov (.c (.int .i64 (-1)))), none⟩])
  .ret)))))))), [(.tmp p2)]⟩
end KD
