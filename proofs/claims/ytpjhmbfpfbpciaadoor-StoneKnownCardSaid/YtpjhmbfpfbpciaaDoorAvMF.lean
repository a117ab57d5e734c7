/- The lowered text, first part: data. -/
import Derived.Test.YtpjhmbfpfbpciaaDoorAvMZ
set_option linter.all false
set_option linter.unusedSectionVars false
set_option linter.unusedVariables false
set_option linter.unusedSimpArgs false
set_option linter.unnecessarySimpa false
section
/- The lowered text of the program, printed by a program of this session out of the translation; IrC holds it against the translation. -/
namespace Av
open Go (IntKind BinOp UnOp)
/-- macadam/macadamlaw03.StoneYards -/
def g3_macadamlaw03_StoneYards_c : ACode := (.seq (.reg [⟨some 2, .p (.boxL 2 (.t 0)), none⟩,
    ⟨some 3, .p (.boxL 3 (.t 1)), none⟩,
    ⟨some 4, .p (.mov (.c (.bool false))), none⟩])
  (.seq (.reg [⟨some 12, .p (.loadL 2 6 true none), none⟩,
    ⟨some 13, .calli (.f 15) [.t 12], none⟩,
    ⟨some 11, .p (.mov (.t 13)), none⟩,
    ⟨some 14, .p (.extract (.t 11) 0), none⟩,
    ⟨some 15, .p (.extract (.t 11) 1), none⟩,
    ⟨some 5, .p (.mov (.t 14)), none⟩,
    ⟨some 6, .p (.mov (.t 15)), none⟩])
  (.seq (.reg [⟨some 17, .p (.loadL 2 6 true none), none⟩,
    ⟨some 18, .calli (.f 16) [.t 17], none⟩,
    ⟨some 16, .p (.mov (.t 18)), none⟩,
    ⟨some 19, .p (.extract (.t 16) 0), none⟩,
    ⟨some 20, .p (.extract (.t 16) 1), none⟩,
    ⟨some 7, .p (.mov (.t 19)), none⟩,
    ⟨some 8, .p (.mov (.t 20)), none⟩])
  (.seq (.seq (.reg [⟨some 21, .p (.mov (.t 5)), none⟩,
    ⟨some 22, .p (.mov (.t 7)), none⟩,
    ⟨some 23, .p (.eqn none true (.t 21) (.t 22)), none⟩,
    ⟨some 24, .p (.mov (.t 23)), none⟩,
    ⟨some 25, .p (.mov (.t 6)), (some (24, false))⟩,
    ⟨some 26, .p (.mov (.t 8)), (some (24, false))⟩,
    ⟨some 27, .p (.bin .neq (.t 25) (.t 26)), (some (24, false))⟩,
    ⟨some 28, .p (.pick (.t 24) (.c (.bool true)) (.t 27)), none⟩,
    ⟨some 29, .p (.mov (.t 28)), none⟩,
    ⟨some 30, .p (.loadL 2 6 true none), (some (29, false))⟩,
    ⟨some 31, .calli (.f 17) [.t 30], (some (29, false))⟩,
    ⟨some 32, .p (.loadL 2 6 true none), (some (29, false))⟩,
    ⟨some 33, .calli (.f 18) [.t 32], (some (29, false))⟩,
    ⟨some 34, .p (.bin .neq (.t 31) (.t 33)), (some (29, false))⟩,
    ⟨some 35, .p (.pick (.t 29) (.c (.bool true)) (.t 34)), none⟩])
  (.cond (.t 35) (.seq (.reg [⟨some 4, .p (.mov (.c (.bool false))), none⟩])
  .ret) .skip))
  (.seq (.reg [⟨some 37, .p (.loadL 2 6 true none), none⟩,
    ⟨some 38, .p (.ladi 3 3 1 (.c (.int .i64 0))), none⟩,
    ⟨some 39, .p (.loadL 3 1 false (some (.t 38))), none⟩,
    ⟨some 40, .calli (.f 19) [.t 37, .t 39], none⟩,
    ⟨some 36, .p (.mov (.t 40)), none⟩,
    ⟨some 41, .p (.extract (.t 36) 0), none⟩,
    ⟨some 42, .p (.extract (.t 36) 1), none⟩,
    ⟨some 9, .p (.allocL 9 [.int .i64 0, .int .i64 0]), none⟩,
    ⟨none, .p (.storeL 9 2 none (.t 41)), none⟩,
    ⟨some 6, .p (.mov (.t 42)), none⟩])
  (.seq (.reg [⟨some 44, .p (.loadL 2 6 true none), none⟩,
    ⟨some 45, .p (.ladi 3 3 1 (.c (.int .i64 0))), none⟩,
    ⟨some 46, .p (.loadL 3 1 false (some (.t 45))), none⟩,
    ⟨some 47, .calli (.f 20) [.t 44, .t 46], none⟩,
    ⟨some 43, .p (.mov (.t 47)), none⟩,
    ⟨some 48, .p (.extract (.t 43) 0), none⟩,
    ⟨some 49, .p (.extract (.t 43) 1), none⟩,
    ⟨some 10, .p (.allocL 10 [.int .i64 0, .int .i64 0]), none⟩,
    ⟨none, .p (.storeL 10 2 none (.t 48)), none⟩,
    ⟨some 8, .p (.mov (.t 49)), none⟩])
  (.seq (.seq (.reg [⟨some 50, .p (.loadL 9 2 true none), none⟩,
    ⟨some 51, .p (.loadL 10 2 true none), none⟩,
    ⟨some 52, .p (.eqn (some 2) true (.t 50) (.t 51)), none⟩,
    ⟨some 53, .p (.mov (.t 52)), none⟩,
    ⟨some 54, .p (.mov (.t 6)), (some (53, false))⟩,
    ⟨some 55, .p (.mov (.t 8)), (some (53, false))⟩,
    ⟨some 56, .p (.bin .neq (.t 54) (.t 55)), (some (53, false))⟩,
    ⟨some 57, .p (.pick (.t 53) (.c (.bool true)) (.t 56)), none⟩])
  (.cond (.t 57) (.seq (.reg [⟨some 4, .p (.mov (.c (.bool false))), none⟩])
  .ret) .skip))
  (.seq (.reg [⟨some 59, .p (.loadL 2 6 true none), none⟩,
    ⟨some 60, .p (.ladi 3 3 1 (.c (.int .i64 1))), none⟩,
    ⟨some 61, .p (.loadL 3 1 false (some (.t 60))), none⟩,
    ⟨some 62, .p (.ladi 3 3 1 (.c (.int .i64 2))), none⟩,
    ⟨some 63, .p (.loadL 3 1 false (some (.t 62))), none⟩,
    ⟨some 64, .calli (.f 21) [.t 59, .t 61, .t 63], none⟩,
    ⟨some 58, .p (.mov (.t 64)), none⟩,
    ⟨some 65, .p (.extract (.t 58) 0), none⟩,
    ⟨some 66, .p (.extract (.t 58) 1), none⟩,
    ⟨none, .p (.storeL 9 2 none (.t 65)), none⟩,
    ⟨some 6, .p (.mov (.t 66)), none⟩])
  (.seq (.reg [⟨some 68, .p (.loadL 2 6 true none), none⟩,
    ⟨some 69, .p (.ladi 3 3 1 (.c (.int .i64 1))), none⟩,
    ⟨some 70, .p (.loadL 3 1 false (some (.t 69))), none⟩,
    ⟨some 71, .p (.ladi 3 3 1 (.c (.int .i64 2))), none⟩,
    ⟨some 72, .p (.loadL 3 1 false (some (.t 71))), none⟩,
    ⟨some 73, .calli (.f 22) [.t 68, .t 70, .t 72], none⟩,
    ⟨some 67, .p (.mov (.t 73)), none⟩,
    ⟨some 74, .p (.extract (.t 67) 0), none⟩,
    ⟨some 75, .p (.extract (.t 67) 1), none⟩,
    ⟨none, .p (.storeL 10 2 none (.t 74)), none⟩,
    ⟨some 8, .p (.mov (.t 75)), none⟩])
  (.seq (.reg [⟨some 76, .p (.loadL 9 2 true none), none⟩,
    ⟨some 77, .p (.loadL 10 2 true none), none⟩,
    ⟨some 78, .p (.eqn (some 2) false (.t 76) (.t 77)), none⟩,
    ⟨some 79, .p (.mov (.t 78)), none⟩,
    ⟨some 80, .p (.mov (.t 6)), (some (79, true))⟩,
    ⟨some 81, .p (.mov (.t 8)), (some (79, true))⟩,
    ⟨some 82, .p (.bin .eql (.t 80) (.t 81)), (some (79, true))⟩,
    ⟨some 83, .p (.pick (.t 79) (.t 82) (.c (.bool false))), none⟩,
    ⟨some 84, .p (.mov (.t 83)), none⟩,
    ⟨some 85, .calli (.f 23) [], (some (84, true))⟩,
    ⟨some 86, .p (.pick (.t 84) (.t 85) (.c (.bool false))), none⟩,
    ⟨some 4, .p (.mov (.t 86)), none⟩])
  .ret))))))))))
def g3_macadamlaw03_StoneYards : AFn := ⟨g3_macadamlaw03_StoneYards_c, [.t 4], 2⟩

/-- macadam/macadamlaw03.StoneOwes -/
def g4_macadamlaw03_StoneOwes_c : ACode := (.seq (.reg [⟨some 2, .p (.boxL 2 (.t 0)), none⟩,
    ⟨some 3, .p (.boxL 3 (.t 1)), none⟩,
    ⟨some 4, .p (.mov (.c (.bool false))), none⟩])
  (.seq (.reg [⟨some 12, .p (.loadL 2 6 true none), none⟩,
    ⟨some 13, .calli (.f 24) [.t 12], none⟩,
    ⟨some 11, .p (.mov (.t 13)), none⟩,
    ⟨some 14, .p (.extract (.t 11) 0), none⟩,
    ⟨some 15, .p (.extract (.t 11) 1), none⟩,
    ⟨some 5, .p (.allocL 5 [.int .i64 0, .int .i64 0]), none⟩,
    ⟨none, .p (.storeL 5 2 none (.t 14)), none⟩,
    ⟨some 6, .p (.mov (.t 15)), none⟩])
  (.seq (.reg [⟨some 17, .p (.loadL 2 6 true none), none⟩,
    ⟨some 18, .calli (.f 25) [.t 17], none⟩,
    ⟨some 16, .p (.mov (.t 18)), none⟩,
    ⟨some 19, .p (.extract (.t 16) 0), none⟩,
    ⟨some 20, .p (.extract (.t 16) 1), none⟩,
    ⟨some 7, .p (.allocL 7 [.int .i64 0, .int .i64 0]), none⟩,
    ⟨none, .p (.storeL 7 2 none (.t 19)), none⟩,
    ⟨some 8, .p (.mov (.t 20)), none⟩])
  (.seq (.seq (.reg [⟨some 21, .p (.loadL 5 2 true none), none⟩,
    ⟨some 22, .p (.loadL 7 2 true none), none⟩,
    ⟨some 23, .p (.eqn (some 2) true (.t 21) (.t 22)), none⟩,
    ⟨some 24, .p (.mov (.t 23)), none⟩,
    ⟨some 25, .p (.mov (.t 6)), (some (24, false))⟩,
    ⟨some 26, .p (.mov (.t 8)), (some (24, false))⟩,
    ⟨some 27, .p (.bin .neq (.t 25) (.t 26)), (some (24, false))⟩,
    ⟨some 28, .p (.pick (.t 24) (.c (.bool true)) (.t 27)), none⟩])
  (.cond (.t 28) (.seq (.reg [⟨some 4, .p (.mov (.c (.bool false))), none⟩])
  .ret) .skip))
  (.seq (.reg [⟨some 30, .p (.loadL 2 6 true none), none⟩,
    ⟨some 31, .p (.ladi 3 2 1 (.c (.int .i64 0))), none⟩,
    ⟨some 32, .p (.loadL 3 1 false (some (.t 31))), none⟩,
    ⟨some 33, .p (.ladi 3 2 1 (.c (.int .i64 1))), none⟩,
    ⟨some 34, .p (.loadL 3 1 false (some (.t 33))), none⟩,
    ⟨some 35, .calli (.f 26) [.t 30, .t 32, .t 34], none⟩,
    ⟨some 29, .p (.mov (.t 35)), none⟩,
    ⟨some 36, .p (.extract (.t 29) 0), none⟩,
    ⟨some 37, .p (.extract (.t 29) 1), none⟩,
    ⟨none, .p (.storeL 5 2 none (.t 36)), none⟩,
    ⟨some 6, .p (.mov (.t 37)), none⟩])
  (.seq (.reg [⟨some 39, .p (.loadL 2 6 true none), none⟩,
    ⟨some 40, .p (.ladi 3 2 1 (.c (.int .i64 0))), none⟩,
    ⟨some 41, .p (.loadL 3 1 false (some (.t 40))), none⟩,
    ⟨some 42, .p (.ladi 3 2 1 (.c (.int .i64 1))), none⟩,
    ⟨some 43, .p (.loadL 3 1 false (some (.t 42))), none⟩,
    ⟨some 44, .calli (.f 27) [.t 39, .t 41, .t 43], none⟩,
    ⟨some 38, .p (.mov (.t 44)), none⟩,
    ⟨some 45, .p (.extract (.t 38) 0), none⟩,
    ⟨some 46, .p (.extract (.t 38) 1), none⟩,
    ⟨none, .p (.storeL 7 2 none (.t 45)), none⟩,
    ⟨some 8, .p (.mov (.t 46)), none⟩])
  (.seq (.seq (.reg [⟨some 47, .p (.loadL 5 2 true none), none⟩,
    ⟨some 48, .p (.loadL 7 2 true none), none⟩,
    ⟨some 49, .p (.eqn (some 2) true (.t 47) (.t 48)), none⟩,
    ⟨some 50, .p (.mov (.t 49)), none⟩,
    ⟨some 51, .p (.mov (.t 6)), (some (50, false))⟩,
    ⟨some 52, .p (.mov (.t 8)), (some (50, false))⟩,
    ⟨some 53, .p (.bin .neq (.t 51) (.t 52)), (some (50, false))⟩,
    ⟨some 54, .p (.pick (.t 50) (.c (.bool true)) (.t 53)), none⟩])
  (.cond (.t 54) (.seq (.reg [⟨some 4, .p (.mov (.c (.bool false))), none⟩])
  .ret) .skip))
  (.seq (.reg [⟨some 56, .p (.loadL 2 6 true none), none⟩,
    ⟨some 57, .calli (.f 28) [.t 56], none⟩,
    ⟨some 55, .p (.mov (.t 57)), none⟩,
    ⟨some 58, .p (.extract (.t 55) 0), none⟩,
    ⟨some 59, .p (.extract (.t 55) 1), none⟩,
    ⟨some 9, .p (.mov (.t 58)), none⟩,
    ⟨some 6, .p (.mov (.t 59)), none⟩])
  (.seq (.reg [⟨some 61, .p (.loadL 2 6 true none), none⟩,
    ⟨some 62, .calli (.f 29) [.t 61], none⟩,
    ⟨some 60, .p (.mov (.t 62)), none⟩,
    ⟨some 63, .p (.extract (.t 60) 0), none⟩,
    ⟨some 64, .p (.extract (.t 60) 1), none⟩,
    ⟨some 10, .p (.mov (.t 63)), none⟩,
    ⟨some 8, .p (.mov (.t 64)), none⟩])
  (.seq (.reg [⟨some 65, .p (.mov (.t 9)), none⟩,
    ⟨some 66, .p (.mov (.t 10)), none⟩,
    ⟨some 67, .calli (.f 30) [.t 65, .t 66], none⟩,
    ⟨some 68, .p (.mov (.t 67)), none⟩,
    ⟨some 69, .p (.mov (.t 6)), (some (68, true))⟩,
    ⟨some 70, .p (.mov (.t 8)), (some (68, true))⟩,
    ⟨some 71, .p (.bin .eql (.t 69) (.t 70)), (some (68, true))⟩,
    ⟨some 72, .p (.pick (.t 68) (.t 71) (.c (.bool false))), none⟩,
    ⟨some 73, .p (.mov (.t 72)), none⟩,
    ⟨some 74, .calli (.f 23) [], (some (73, true))⟩,
    ⟨some 75, .p (.pick (.t 73) (.t 74) (.c (.bool false))), none⟩,
    ⟨some 4, .p (.mov (.t 75)), none⟩])
  .ret))))))))))
def g4_macadamlaw03_StoneOwes : AFn := ⟨g4_macadamlaw03_StoneOwes_c, [.t 4], 2⟩

/-- macadam/macadamlaw03.StoneFits -/
def g5_macadamlaw03_StoneFits_c : ACode := (.seq (.reg [⟨some 2, .p (.boxL 2 (.t 0)), none⟩,
    ⟨some 3, .p (.boxL 3 (.t 1)), none⟩,
    ⟨some 4, .p (.mov (.c (.bool false))), none⟩])
  (.seq (.reg [⟨some 12, .p (.loadL 2 6 true none), none⟩,
    ⟨some 13, .p (.ladi 3 2 1 (.c (.int .i64 0))), none⟩,
    ⟨some 14, .p (.loadL 3 1 false (some (.t 13))), none⟩,
    ⟨some 15, .p (.ladi 3 2 1 (.c (.int .i64 1))), none⟩,
    ⟨some 16, .p (.loadL 3 1 false (some (.t 15))), none⟩,
    ⟨some 17, .calli (.f 31) [.t 12, .t 14, .t 16], none⟩,
    ⟨some 11, .p (.mov (.t 17)), none⟩,
    ⟨some 18, .p (.extract (.t 11) 0), none⟩,
    ⟨some 19, .p (.extract (.t 11) 1), none⟩,
    ⟨some 5, .p (.mov (.t 18)), none⟩,
    ⟨some 6, .p (.mov (.t 19)), none⟩])
  (.seq (.reg [⟨some 21, .p (.loadL 2 6 true none), none⟩,
    ⟨some 22, .p (.ladi 3 2 1 (.c (.int .i64 0))), none⟩,
    ⟨some 23, .p (.loadL 3 1 false (some (.t 22))), none⟩,
    ⟨some 24, .p (.ladi 3 2 1 (.c (.int .i64 1))), none⟩,
    ⟨some 25, .p (.loadL 3 1 false (some (.t 24))), none⟩,
    ⟨some 26, .calli (.f 32) [.t 21, .t 23, .t 25], none⟩,
    ⟨some 20, .p (.mov (.t 26)), none⟩,
    ⟨some 27, .p (.extract (.t 20) 0), none⟩,
    ⟨some 28, .p (.extract (.t 20) 1), none⟩,
    ⟨some 7, .p (.mov (.t 27)), none⟩,
    ⟨some 8, .p (.mov (.t 28)), none⟩])
  (.seq (.seq (.reg [⟨some 29, .p (.mov (.t 5)), none⟩,
    ⟨some 30, .p (.mov (.t 7)), none⟩,
    ⟨some 31, .p (.eqn none true (.t 29) (.t 30)), none⟩,
    ⟨some 32, .p (.mov (.t 31)), none⟩,
    ⟨some 33, .p (.mov (.t 6)), (some (32, false))⟩,
    ⟨some 34, .p (.mov (.t 8)), (some (32, false))⟩,
    ⟨some 35, .p (.bin .neq (.t 33) (.t 34)), (some (32, false))⟩,
    ⟨some 36, .p (.pick (.t 32) (.c (.bool true)) (.t 35)), none⟩])
  (.cond (.t 36) (.seq (.reg [⟨some 4, .p (.mov (.c (.bool false))), none⟩])
  .ret) .skip))
  (.seq (.reg [⟨some 38, .p (.loadL 2 6 true none), none⟩,
    ⟨some 39, .calli (.f 33) [.t 38], none⟩,
    ⟨some 37, .p (.mov (.t 39)), none⟩,
    ⟨some 40, .p (.extract (.t 37) 0), none⟩,
    ⟨some 41, .p (.extract (.t 37) 1), none⟩,
    ⟨some 9, .p (.mov (.t 40)), none⟩,
    ⟨some 6, .p (.mov (.t 41)), none⟩])
  (.seq (.reg [⟨some 43, .p (.loadL 2 6 true none), none⟩,
    ⟨some 44, .calli (.f 34) [.t 43], none⟩,
    ⟨some 42, .p (.mov (.t 44)), none⟩,
    ⟨some 45, .p (.extract (.t 42) 0), none⟩,
    ⟨some 46, .p (.extract (.t 42) 1), none⟩,
    ⟨some 10, .p (.mov (.t 45)), none⟩,
    ⟨some 8, .p (.mov (.t 46)), none⟩])
  (.seq (.reg [⟨some 47, .p (.mov (.t 9)), none⟩,
    ⟨some 48, .p (.mov (.t 10)), none⟩,
    ⟨some 49, .calli (.f 30) [.t 47, .t 48], none⟩,
    ⟨some 50, .p (.mov (.t 49)), none⟩,
    ⟨some 51, .p (.mov (.t 6)), (some (50, true))⟩,
    ⟨some 52, .p (.mov (.t 8)), (some (50, true))⟩,
    ⟨some 53, .p (.bin .eql (.t 51) (.t 52)), (some (50, true))⟩,
    ⟨some 54, .p (.pick (.t 50) (.t 53) (.c (.bool false))), none⟩,
    ⟨some 55, .p (.mov (.t 54)), none⟩,
    ⟨some 56, .calli (.f 23) [], (some (55, true))⟩,
    ⟨some 57, .p (.pick (.t 55) (.t 56) (.c (.bool false))), none⟩,
    ⟨some 4, .p (.mov (.t 57)), none⟩])
  .ret)))))))
def g5_macadamlaw03_StoneFits : AFn := ⟨g5_macadamlaw03_StoneFits_c, [.t 4], 2⟩

/-- macadam/macadamlaw03.StoneTrue -/
def g6_macadamlaw03_StoneTrue_l0 : ACode := (.seq (.seq (.reg [⟨some 143, .p (.mov (.t 27)), none⟩,
    ⟨some 144, .p (.lad 8 1), none⟩,
    ⟨some 145, .p (.loadL 8 1 false (some (.t 144))), none⟩,
    ⟨some 146, .p (.len (.t 145)), none⟩,
    ⟨some 147, .p (.bin .lss (.t 143) (.t 146)), none⟩])
  (.cond (.t 147) .skip (.exit 0)))
  (.seq (.block 1 (.seq (.reg [⟨some 150, .p (.lad 8 1), none⟩,
    ⟨some 151, .p (.loadL 8 1 false (some (.t 150))), none⟩,
    ⟨some 152, .p (.mov (.t 27)), none⟩,
    ⟨some 153, .p (.iaddr none 4 (.t 151) (.t 152)), none⟩,
    ⟨some 154, .p (.loadC 4 true (.t 153)), none⟩,
    ⟨some 28, .p (.allocL 28 [.int .i64 0, .int .i64 0, .int .i64 0, .int .i64 0]), none⟩,
    ⟨none, .p (.storeL 28 4 none (.t 154)), none⟩])
  (.seq (.seq (.reg [⟨some 155, .p (.lad 28 1), none⟩,
    ⟨some 156, .p (.loadL 28 1 false (some (.t 155))), none⟩,
    ⟨some 157, .p (.bin .lss (.t 156) (.c (.int .i64 0))), none⟩])
  (.cond (.t 157) (.reg [⟨some 158, .p (.mov (.t 24)), none⟩,
    ⟨some 159, .p (.lad 7 1), none⟩,
    ⟨some 160, .p (.loadL 7 1 false (some (.t 159))), none⟩,
    ⟨some 161, .p (.mov (.t 27)), none⟩,
    ⟨some 162, .p (.iaddr none 1 (.t 160) (.t 161)), none⟩,
    ⟨some 163, .p (.loadC 1 false (.t 162)), none⟩,
    ⟨some 164, .p (.bin .add (.t 158) (.t 163)), none⟩,
    ⟨some 24, .p (.mov (.t 164)), none⟩]) .skip))
  (.seq (.seq (.reg [⟨some 165, .p (.lad 28 2), none⟩,
    ⟨some 166, .p (.loadL 28 1 false (some (.t 165))), none⟩,
    ⟨some 167, .p (.mov (.t 11)), none⟩,
    ⟨some 168, .p (.bin .eql (.t 166) (.t 167)), none⟩])
  (.cond (.t 168) (.reg [⟨some 169, .p (.mov (.t 25)), none⟩,
    ⟨some 170, .p (.lad 7 1), none⟩,
    ⟨some 171, .p (.loadL 7 1 false (some (.t 170))), none⟩,
    ⟨some 172, .p (.mov (.t 27)), none⟩,
    ⟨some 173, .p (.iaddr none 1 (.t 171) (.t 172)), none⟩,
    ⟨some 174, .p (.loadC 1 false (.t 173)), none⟩,
    ⟨some 175, .p (.bin .add (.t 169) (.t 174)), none⟩,
    ⟨some 25, .p (.mov (.t 175)), none⟩]) .skip))
  (.reg [⟨some 176, .p (.lad 28 2), none⟩,
    ⟨some 177, .p (.loadL 28 1 false (some (.t 176))), none⟩,
    ⟨some 178, .p (.lad 28 2), none⟩,
    ⟨some 179, .p (.loadL 28 1 false (some (.t 178))), none⟩,
    ⟨some 180, .p (.ladi 26 4 1 (.t 179)), none⟩,
    ⟨some 181, .p (.loadL 26 1 false (some (.t 180))), none⟩,
    ⟨some 182, .p (.mov (.t 181)), none⟩,
    ⟨some 183, .p (.lad 28 3), (some (182, false))⟩,
    ⟨some 184, .p (.loadL 28 1 false (some (.t 183))), (some (182, false))⟩,
    ⟨some 185, .p (.lad 7 1), (some (182, false))⟩,
    ⟨some 186, .p (.loadL 7 1 false (some (.t 185))), (some (182, false))⟩,
    ⟨some 187, .p (.mov (.t 27)), (some (182, false))⟩,
    ⟨some 188, .p (.iaddr none 1 (.t 186) (.t 187)), (some (182, false))⟩,
    ⟨some 189, .p (.loadC 1 false (.t 188)), (some (182, false))⟩,
    ⟨some 190, .p (.bin .gtr (.t 184) (.t 189)), (some (182, false))⟩,
    ⟨some 191, .p (.pick (.t 182) (.c (.bool true)) (.t 190)), none⟩,
    ⟨some 192, .p (.ladi 26 4 1 (.t 177)), none⟩,
    ⟨none, .p (.storeL 26 1 (some (.t 192)) (.t 191)), none⟩])))))
  (.reg [⟨some 148, .p (.mov (.t 27)), none⟩,
    ⟨some 149, .p (.bin .add (.t 148) (.c (.int .i64 1))), none⟩,
    ⟨some 27, .p (.mov (.t 149)), none⟩])))
def g6_macadamlaw03_StoneTrue_l1 : ACode := (.seq (.seq (.reg [⟨some 193, .p (.mov (.t 29)), none⟩,
    ⟨some 194, .p (.mov (.t 22)), none⟩,
    ⟨some 195, .p (.len (.t 194)), none⟩,
    ⟨some 196, .p (.bin .lss (.t 193) (.t 195)), none⟩])
  (.cond (.t 196) .skip (.exit 2)))
  (.seq (.block 3 (.seq (.reg [⟨some 199, .p (.mov (.t 22)), none⟩,
    ⟨some 200, .p (.mov (.t 29)), none⟩,
    ⟨some 201, .p (.iaddr none 1 (.t 199) (.t 200)), none⟩,
    ⟨some 202, .p (.loadC 1 false (.t 201)), none⟩,
    ⟨some 203, .p (.ladi 26 4 1 (.t 202)), none⟩,
    ⟨some 204, .p (.loadL 26 1 false (some (.t 203))), none⟩,
    ⟨some 205, .p (.un .not (.t 204)), none⟩])
  (.cond (.t 205) (.seq (.reg [⟨some 6, .p (.mov (.c (.bool false))), none⟩])
  .ret) .skip)))
  (.reg [⟨some 197, .p (.mov (.t 29)), none⟩,
    ⟨some 198, .p (.bin .add (.t 197) (.c (.int .i64 1))), none⟩,
    ⟨some 29, .p (.mov (.t 198)), none⟩])))
def g6_macadamlaw03_StoneTrue_c : ACode := (.seq (.reg [⟨some 3, .p (.boxL 3 (.t 0)), none⟩,
    ⟨some 5, .p (.boxL 5 (.t 2)), none⟩,
    ⟨some 6, .p (.mov (.c (.bool false))), none⟩])
  (.seq (.seq (.reg [⟨some 33, .p (.loadL 3 6 true none), none⟩,
    ⟨some 34, .calli (.f 35) [.t 33], none⟩,
    ⟨some 35, .p (.un .not (.t 34)), none⟩])
  (.cond (.t 35) (.seq (.reg [⟨some 36, .calli (.f 23) [], none⟩,
    ⟨some 6, .p (.mov (.t 36)), none⟩])
  .ret) .skip))
  (.seq (.reg [⟨some 37, .p (.loadL 3 6 true none), none⟩,
    ⟨some 38, .p (.mov (.t 1)), none⟩,
    ⟨some 39, .calli (.f 36) [.t 37, .t 38], none⟩,
    ⟨some 7, .p (.allocL 7 [.sl [] .exact, .sl [] .exact]), none⟩,
    ⟨none, .p (.storeL 7 2 none (.t 39)), none⟩])
  (.seq (.reg [⟨some 40, .p (.loadL 3 6 true none), none⟩,
    ⟨some 41, .p (.loadL 7 2 true none), none⟩,
    ⟨some 42, .p (.mov (.t 1)), none⟩,
    ⟨some 43, .calli (.f 37) [.t 40, .t 41, .t 42], none⟩,
    ⟨some 8, .p (.allocL 8 [.sl [] .exact, .sl [] .exact, .int .i64 0, .int .i64 0, .int .i64 0, .int .i64 0]), none⟩,
    ⟨none, .p (.storeL 8 6 none (.t 43)), none⟩])
  (.seq (.reg [⟨some 44, .p (.ladi 5 4 1 (.c (.int .i64 1))), none⟩,
    ⟨some 45, .p (.loadL 5 1 false (some (.t 44))), none⟩,
    ⟨some 46, .p (.lad 3 0), none⟩,
    ⟨some 47, .p (.loadL 3 1 false (some (.t 46))), none⟩,
    ⟨some 48, .p (.len (.t 47)), none⟩,
    ⟨some 49, .calli (.f 38) [.t 45, .t 48], none⟩,
    ⟨some 50, .p (.ladi 5 4 1 (.c (.int .i64 2))), none⟩,
    ⟨some 51, .p (.loadL 5 1 false (some (.t 50))), none⟩,
    ⟨some 52, .p (.lad 3 1), none⟩,
    ⟨some 53, .p (.loadL 3 1 false (some (.t 52))), none⟩,
    ⟨some 54, .p (.len (.t 53)), none⟩,
    ⟨some 55, .p (.bin .add (.t 54) (.c (.int .i64 1))), none⟩,
    ⟨some 56, .calli (.f 38) [.t 51, .t 55], none⟩,
    ⟨some 57, .p (.ladi 5 4 1 (.c (.int .i64 3))), none⟩,
    ⟨some 58, .p (.loadL 5 1 false (some (.t 57))), none⟩,
    ⟨some 59, .calli (.f 38) [.t 58, .c (.int .i64 4)], none⟩,
    ⟨some 9, .p (.mov (.t 49)), none⟩,
    ⟨some 10, .p (.mov (.t 56)), none⟩,
    ⟨some 11, .p (.mov (.t 59)), none⟩])
  (.seq (.reg [⟨some 61, .p (.loadL 8 6 true none), none⟩,
    ⟨some 62, .calli (.f 15) [.t 61], none⟩,
    ⟨some 60, .p (.mov (.t 62)), none⟩,
    ⟨some 63, .p (.extract (.t 60) 0), none⟩,
    ⟨some 64, .p (.extract (.t 60) 1), none⟩,
    ⟨some 12, .p (.mov (.t 63)), none⟩,
    ⟨some 13, .p (.mov (.t 64)), none⟩])
  (.seq (.reg [⟨some 66, .p (.loadL 8 6 true none), none⟩,
    ⟨some 67, .calli (.f 33) [.t 66], none⟩,
    ⟨some 65, .p (.mov (.t 67)), none⟩,
    ⟨some 68, .p (.extract (.t 65) 0), none⟩,
    ⟨some 69, .p (.extract (.t 65) 1), none⟩,
    ⟨some 14, .p (.mov (.t 68)), none⟩,
    ⟨some 15, .p (.mov (.t 69)), none⟩])
  (.seq (.reg [⟨some 71, .p (.loadL 8 6 true none), none⟩,
    ⟨some 72, .p (.mov (.t 9)), none⟩,
    ⟨some 73, .p (.mov (.t 10)), none⟩,
    ⟨some 74, .calli (.f 21) [.t 71, .t 72, .t 73], none⟩,
    ⟨some 70, .p (.mov (.t 74)), none⟩,
    ⟨some 75, .p (.extract (.t 70) 0), none⟩,
    ⟨some 76, .p (.extract (.t 70) 1), none⟩,
    ⟨some 16, .p (.allocL 16 [.int .i64 0, .int .i64 0]), none⟩,
    ⟨none, .p (.storeL 16 2 none (.t 75)), none⟩,
    ⟨some 17, .p (.mov (.t 76)), none⟩])
  (.seq (.reg [⟨some 78, .p (.loadL 8 6 true none), none⟩,
    ⟨some 79, .calli (.f 24) [.t 78], none⟩,
    ⟨some 77, .p (.mov (.t 79)), none⟩,
    ⟨some 80, .p (.extract (.t 77) 0), none⟩,
    ⟨some 81, .p (.extract (.t 77) 1), none⟩,
    ⟨some 18, .p (.allocL 18 [.int .i64 0, .int .i64 0]), none⟩,
    ⟨none, .p (.storeL 18 2 none (.t 80)), none⟩,
    ⟨some 19, .p (.mov (.t 81)), none⟩])
  (.seq (.reg [⟨some 83, .p (.loadL 8 6 true none), none⟩,
    ⟨some 84, .p (.mov (.t 11)), none⟩,
    ⟨some 85, .calli (.f 26) [.t 83, .t 84, .c (.int .i64 3)], none⟩,
    ⟨some 82, .p (.mov (.t 85)), none⟩,
    ⟨some 86, .p (.extract (.t 82) 0), none⟩,
    ⟨some 87, .p (.extract (.t 82) 1), none⟩,
    ⟨some 20, .p (.allocL 20 [.int .i64 0, .int .i64 0]), none⟩,
    ⟨none, .p (.storeL 20 2 none (.t 86)), none⟩,
    ⟨some 21, .p (.mov (.t 87)), none⟩])
  (.seq (.reg [⟨some 89, .p (.loadL 8 6 true none), none⟩,
    ⟨some 90, .calli (.f 28) [.t 89], none⟩,
    ⟨some 88, .p (.mov (.t 90)), none⟩,
    ⟨some 91, .p (.extract (.t 88) 0), none⟩,
    ⟨some 92, .p (.extract (.t 88) 1), none⟩,
    ⟨some 22, .p (.mov (.t 91)), none⟩,
    ⟨some 23, .p (.mov (.t 92)), none⟩])
  (.seq (.seq (.reg [⟨some 93, .p (.mov (.t 13)), none⟩,
    ⟨some 94, .p (.bin .neq (.t 93) (.c (.int .i64 0))), none⟩,
    ⟨some 95, .p (.mov (.t 94)), none⟩,
    ⟨some 96, .p (.mov (.t 15)), (some (95, false))⟩,
    ⟨some 97, .p (.bin .neq (.t 96) (.c (.int .i64 0))), (some (95, false))⟩,
    ⟨some 98, .p (.pick (.t 95) (.c (.bool true)) (.t 97)), none⟩,
    ⟨some 99, .p (.mov (.t 98)), none⟩,
    ⟨some 100, .p (.mov (.t 17)), (some (99, false))⟩,
    ⟨some 101, .p (.bin .neq (.t 100) (.c (.int .i64 0))), (some (99, false))⟩,
    ⟨some 102, .p (.pick (.t 99) (.c (.bool true)) (.t 101)), none⟩,
    ⟨some 103, .p (.mov (.t 102)), none⟩,
    ⟨some 104, .p (.mov (.t 19)), (some (103, false))⟩,
    ⟨some 105, .p (.bin .neq (.t 104) (.c (.int .i64 0))), (some (103, false))⟩,
    ⟨some 106, .p (.pick (.t 103) (.c (.bool true)) (.t 105)), none⟩,
    ⟨some 107, .p (.mov (.t 106)), none⟩,
    ⟨some 108, .p (.mov (.t 21)), (some (107, false))⟩,
    ⟨some 109, .p (.bin .neq (.t 108) (.c (.int .i64 0))), (some (107, false))⟩,
    ⟨some 110, .p (.pick (.t 107) (.c (.bool true)) (.t 109)), none⟩,
    ⟨some 111, .p (.mov (.t 110)), none⟩,
    ⟨some 112, .p (.mov (.t 23)), (some (111, false))⟩,
    ⟨some 113, .p (.bin .neq (.t 112) (.c (.int .i64 0))), (some (111, false))⟩,
    ⟨some 114, .p (.pick (.t 111) (.c (.bool true)) (.t 113)), none⟩,
    ⟨some 115, .p (.mov (.t 114)), none⟩,
    ⟨some 116, .p (.mov (.t 12)), (some (115, false))⟩,
    ⟨some 117, .p (.un .not (.t 116)), (some (115, false))⟩,
    ⟨some 118, .p (.pick (.t 115) (.c (.bool true)) (.t 117)), none⟩,
    ⟨some 119, .p (.mov (.t 118)), none⟩,
    ⟨some 120, .p (.mov (.t 14)), (some (119, false))⟩,
    ⟨some 121, .p (.len (.t 120)), (some (119, false))⟩,
    ⟨some 122, .p (.bin .neq (.t 121) (.c (.int .i64 0))), (some (119, false))⟩,
    ⟨some 123, .p (.pick (.t 119) (.c (.bool true)) (.t 122)), none⟩,
    ⟨some 124, .p (.mov (.t 123)), none⟩,
    ⟨some 125, .p (.loadL 16 2 true none), (some (124, false))⟩,
    ⟨some 126, .p (.lad 7 0), (some (124, false))⟩,
    ⟨some 127, .p (.loadL 7 1 false (some (.t 126))), (some (124, false))⟩,
    ⟨some 128, .p (.mov (.t 10)), (some (124, false))⟩,
    ⟨some 129, .p (.iaddr none 1 (.t 127) (.t 128)), (some (124, false))⟩,
    ⟨some 130, .p (.loadC 1 false (.t 129)), (some (124, false))⟩,
    ⟨some 131, .p (.mov (.t 9)), (some (124, false))⟩,
    ⟨some 132, .p (.iaddr none 1 (.t 130) (.t 131)), (some (124, false))⟩,
    ⟨some 133, .p (.loadC 1 false (.t 132)), (some (124, false))⟩,
    ⟨some 134, .calli (.f 39) [.t 125, .t 133], (some (124, false))⟩,
    ⟨some 135, .p (.un .not (.t 134)), (some (124, false))⟩,
    ⟨some 136, .p (.pick (.t 124) (.c (.bool true)) (.t 135)), none⟩,
    ⟨some 137, .p (.mov (.t 136)), none⟩,
    ⟨some 138, .p (.mov (.t 22)), (some (137, false))⟩,
    ⟨some 139, .calli (.f 40) [.t 138, .c (.int .i64 4)], (some (137, false))⟩,
    ⟨some 140, .p (.un .not (.t 139)), (some (137, false))⟩,
    ⟨some 141, .p (.pick (.t 137) (.c (.bool true)) (.t 140)), none⟩])
  (.cond (.t 141) (.seq (.reg [⟨some 6, .p (.mov (.c (.bool false))), none⟩])
  .ret) .skip))
  (.seq (.reg [⟨some 24, .p (.mov (.c (.int .i64 0))), none⟩,
    ⟨some 25, .p (.mov (.c (.int .i64 0))), none⟩])
  (.seq (.reg [⟨some 142, .p (.build [.bool false, .bool false, .bool false, .bool false] []), none⟩,
    ⟨some 26, .p (.allocL 26 [.bool false, .bool false, .bool false, .bool false]), none⟩,
    ⟨none, .p (.storeL 26 4 none (.t 142)), none⟩])
  (.seq (.seq (.reg [⟨some 27, .p (.mov (.c (.int .i64 0))), none⟩])
  (.block 0 (.loop g6_macadamlaw03_StoneTrue_l0)))
  (.seq (.seq (.reg [⟨some 29, .p (.mov (.c (.int .i64 0))), none⟩])
  (.block 2 (.loop g6_macadamlaw03_StoneTrue_l1)))
  (.seq (.seq (.reg [⟨some 206, .p (.loadL 18 2 true none), none⟩,
    ⟨some 207, .p (.mov (.t 24)), none⟩,
    ⟨some 208, .calli (.f 39) [.t 206, .t 207], none⟩,
    ⟨some 209, .p (.un .not (.t 208)), none⟩,
    ⟨some 210, .p (.mov (.t 209)), none⟩,
    ⟨some 211, .p (.loadL 20 2 true none), (some (210, false))⟩,
    ⟨some 212, .p (.mov (.t 25)), (some (210, false))⟩,
    ⟨some 213, .p (.bin .mul (.c (.int .i64 3)) (.t 212)), (some (210, false))⟩,
    ⟨some 214, .calli (.f 39) [.t 211, .t 213], (some (210, false))⟩,
    ⟨some 215, .p (.un .not (.t 214)), (some (210, false))⟩,
    ⟨some 216, .p (.pick (.t 210) (.c (.bool true)) (.t 215)), none⟩])
  (.cond (.t 216) (.seq (.reg [⟨some 6, .p (.mov (.c (.bool false))), none⟩])
  .ret) .skip))
  (.seq (.seq (.reg [⟨some 217, .p (.lad 3 1), none⟩,
    ⟨some 218, .p (.loadL 3 1 false (some (.t 217))), none⟩,
    ⟨some 219, .p (.len (.t 218)), none⟩,
    ⟨some 220, .p (.bin .eql (.t 219) (.c (.int .i64 0))), none⟩])
  (.cond (.t 220) (.seq (.reg [⟨some 221, .calli (.f 23) [], none⟩,
    ⟨some 6, .p (.mov (.t 221)), none⟩])
  .ret) .skip))
  (.seq (.reg [⟨some 222, .p (.ladi 5 4 1 (.c (.int .i64 0))), none⟩,
    ⟨some 223, .p (.loadL 5 1 false (some (.t 222))), none⟩,
    ⟨some 224, .p (.lad 3 1), none⟩,
    ⟨some 225, .p (.loadL 3 1 false (some (.t 224))), none⟩,
    ⟨some 226, .p (.len (.t 225)), none⟩,
    ⟨some 227, .calli (.f 38) [.t 223, .t 226], none⟩,
    ⟨some 30, .p (.mov (.t 227)), none⟩])
  (.seq (.reg [⟨some 229, .p (.loadL 8 6 true none), none⟩,
    ⟨some 230, .p (.mov (.t 30)), none⟩,
    ⟨some 231, .calli (.f 19) [.t 229, .t 230], none⟩,
    ⟨some 228, .p (.mov (.t 231)), none⟩,
    ⟨some 232, .p (.extract (.t 228) 0), none⟩,
    ⟨some 233, .p (.extract (.t 228) 1), none⟩,
    ⟨some 31, .p (.allocL 31 [.int .i64 0, .int .i64 0]), none⟩,
    ⟨none, .p (.storeL 31 2 none (.t 232)), none⟩,
    ⟨some 13, .p (.mov (.t 233)), none⟩])
  (.seq (.reg [⟨some 235, .p (.loadL 8 6 true none), none⟩,
    ⟨some 236, .p (.mov (.t 30)), none⟩,
    ⟨some 237, .p (.lad 7 1), none⟩,
    ⟨some 238, .p (.loadL 7 1 false (some (.t 237))), none⟩,
    ⟨some 239, .p (.mov (.t 30)), none⟩,
    ⟨some 240, .p (.iaddr none 1 (.t 238) (.t 239)), none⟩,
    ⟨some 241, .p (.loadC 1 false (.t 240)), none⟩,
    ⟨some 242, .calli (.f 31) [.t 235, .t 236, .t 241], none⟩,
    ⟨some 234, .p (.mov (.t 242)), none⟩,
    ⟨some 243, .p (.extract (.t 234) 0), none⟩,
    ⟨some 244, .p (.extract (.t 234) 1), none⟩,
    ⟨some 32, .p (.mov (.t 243)), none⟩,
    ⟨some 15, .p (.mov (.t 244)), none⟩])
  (.seq (.reg [⟨some 245, .p (.mov (.t 13)), none⟩,
    ⟨some 246, .p (.bin .eql (.t 245) (.c (.int .i64 0))), none⟩,
    ⟨some 247, .p (.mov (.t 246)), none⟩,
    ⟨some 248, .p (.mov (.t 15)), (some (247, true))⟩,
    ⟨some 249, .p (.bin .eql (.t 248) (.c (.int .i64 0))), (some (247, true))⟩,
    ⟨some 250, .p (.pick (.t 247) (.t 249) (.c (.bool false))), none⟩,
    ⟨some 251, .p (.mov (.t 250)), none⟩,
    ⟨some 252, .p (.loadL 31 2 true none), (some (251, true))⟩,
    ⟨some 253, .p (.lad 7 1), (some (251, true))⟩,
    ⟨some 254, .p (.loadL 7 1 false (some (.t 253))), (some (251, true))⟩,
    ⟨some 255, .p (.mov (.t 30)), (some (251, true))⟩,
    ⟨some 256, .p (.iaddr none 1 (.t 254) (.t 255)), (some (251, true))⟩,
    ⟨some 257, .p (.loadC 1 false (.t 256)), (some (251, true))⟩,
    ⟨some 258, .calli (.f 39) [.t 252, .t 257], (some (251, true))⟩,
    ⟨some 259, .p (.pick (.t 251) (.t 258) (.c (.bool false))), none⟩,
    ⟨some 260, .p (.mov (.t 259)), none⟩,
    ⟨some 261, .p (.mov (.t 32)), (some (260, true))⟩,
    ⟨some 262, .p (.pick (.t 260) (.t 261) (.c (.bool false))), none⟩,
    ⟨some 263, .p (.mov (.t 262)), none⟩,
    ⟨some 264, .calli (.f 23) [], (some (263, true))⟩,
    ⟨some 265, .p (.pick (.t 263) (.t 264) (.c (.bool false))), none⟩,
    ⟨some 6, .p (.mov (.t 265)), none⟩])
  .ret))))))))))))))))))))))
def g6_macadamlaw03_StoneTrue : AFn := ⟨g6_macadamlaw03_StoneTrue_c, [.t 6], 3⟩

/-- macadam/macadamlaw03.StoneEach -/
def g7_macadamlaw03_StoneEach_c : ACode := (.seq (.reg [⟨some 2, .p (.boxL 2 (.t 0)), none⟩,
    ⟨some 3, .p (.boxL 3 (.t 1)), none⟩,
    ⟨some 4, .p (.mov (.c (.bool false))), none⟩])
  (.seq (.seq (.reg [⟨some 16, .p (.loadL 2 6 true none), none⟩,
    ⟨some 17, .calli (.f 35) [.t 16], none⟩,
    ⟨some 18, .p (.un .not (.t 17)), none⟩,
    ⟨some 19, .p (.mov (.t 18)), none⟩,
    ⟨some 20, .p (.lad 2 1), (some (19, false))⟩,
    ⟨some 21, .p (.loadL 2 1 false (some (.t 20))), (some (19, false))⟩,
    ⟨some 22, .p (.len (.t 21)), (some (19, false))⟩,
    ⟨some 23, .p (.bin .eql (.t 22) (.c (.int .i64 0))), (some (19, false))⟩,
    ⟨some 24, .p (.pick (.t 19) (.c (.bool true)) (.t 23)), none⟩])
  (.cond (.t 24) (.seq (.reg [⟨some 25, .calli (.f 23) [], none⟩,
    ⟨some 4, .p (.mov (.t 25)), none⟩])
  .ret) .skip))
  (.seq (.reg [⟨some 26, .p (.ladi 3 2 1 (.c (.int .i64 0))), none⟩,
    ⟨some 27, .p (.loadL 3 1 false (some (.t 26))), none⟩,
    ⟨some 28, .p (.lad 2 1), none⟩,
    ⟨some 29, .p (.loadL 2 1 false (some (.t 28))), none⟩,
    ⟨some 30, .p (.len (.t 29)), none⟩,
    ⟨some 31, .calli (.f 38) [.t 27, .t 30], none⟩,
    ⟨some 32, .p (.ladi 3 2 1 (.c (.int .i64 1))), none⟩,
    ⟨some 33, .p (.loadL 3 1 false (some (.t 32))), none⟩,
    ⟨some 34, .calli (.f 38) [.t 33, .c (.int .i64 7)], none⟩,
    ⟨some 5, .p (.mov (.t 31)), none⟩,
    ⟨some 6, .p (.mov (.t 34)), none⟩])
  (.seq (.reg [⟨some 36, .p (.loadL 2 6 true none), none⟩,
    ⟨some 37, .p (.mov (.t 5)), none⟩,
    ⟨some 38, .calli (.f 19) [.t 36, .t 37], none⟩,
    ⟨some 35, .p (.mov (.t 38)), none⟩,
    ⟨some 39, .p (.extract (.t 35) 0), none⟩,
    ⟨some 40, .p (.extract (.t 35) 1), none⟩,
    ⟨some 7, .p (.allocL 7 [.int .i64 0, .int .i64 0]), none⟩,
    ⟨none, .p (.storeL 7 2 none (.t 39)), none⟩,
    ⟨some 8, .p (.mov (.t 40)), none⟩])
  (.seq (.reg [⟨some 42, .p (.loadL 2 6 true none), none⟩,
    ⟨some 43, .p (.mov (.t 5)), none⟩,
    ⟨some 44, .p (.mov (.t 6)), none⟩,
    ⟨some 45, .calli (.f 31) [.t 42, .t 43, .t 44], none⟩,
    ⟨some 41, .p (.mov (.t 45)), none⟩,
    ⟨some 46, .p (.extract (.t 41) 0), none⟩,
    ⟨some 47, .p (.extract (.t 41) 1), none⟩,
    ⟨some 9, .p (.mov (.t 46)), none⟩,
    ⟨some 10, .p (.mov (.t 47)), none⟩])
  (.seq (.seq (.reg [⟨some 48, .p (.mov (.t 8)), none⟩,
    ⟨some 49, .p (.bin .neq (.t 48) (.c (.int .i64 0))), none⟩])
  (.cond (.t 49) (.seq (.reg [⟨some 50, .p (.mov (.t 8)), none⟩,
    ⟨some 51, .p (.bin .eql (.t 50) (.c (.int .i64 32))), none⟩,
    ⟨some 52, .p (.mov (.t 51)), none⟩,
    ⟨some 53, .p (.mov (.t 10)), (some (52, true))⟩,
    ⟨some 54, .p (.mov (.t 8)), (some (52, true))⟩,
    ⟨some 55, .p (.bin .eql (.t 53) (.t 54)), (some (52, true))⟩,
    ⟨some 56, .p (.pick (.t 52) (.t 55) (.c (.bool false))), none⟩,
    ⟨some 57, .p (.mov (.t 56)), none⟩,
    ⟨some 58, .p (.loadL 7 2 true none), (some (57, true))⟩,
    ⟨some 59, .calli (.f 41) [.c (.int .i64 0)], (some (57, true))⟩,
    ⟨some 60, .p (.eqn (some 2) false (.t 58) (.t 59)), (some (57, true))⟩,
    ⟨some 61, .p (.pick (.t 57) (.t 60) (.c (.bool false))), none⟩,
    ⟨some 62, .p (.mov (.t 61)), none⟩,
    ⟨some 63, .p (.mov (.t 9)), (some (62, true))⟩,
    ⟨some 64, .p (.un .not (.t 63)), (some (62, true))⟩,
    ⟨some 65, .p (.pick (.t 62) (.t 64) (.c (.bool false))), none⟩,
    ⟨some 66, .p (.mov (.t 65)), none⟩,
    ⟨some 67, .calli (.f 23) [], (some (66, true))⟩,
    ⟨some 68, .p (.pick (.t 66) (.t 67) (.c (.bool false))), none⟩,
    ⟨some 4, .p (.mov (.t 68)), none⟩])
  .ret) .skip))
  (.seq (.seq (.reg [⟨some 69, .p (.mov (.t 10)), none⟩,
    ⟨some 70, .p (.bin .neq (.t 69) (.c (.int .i64 0))), none⟩,
    ⟨some 71, .p (.mov (.t 70)), none⟩,
    ⟨some 72, .p (.loadL 7 2 true none), (some (71, false))⟩,
    ⟨some 73, .calli (.f 42) [.t 72, .c (.int .i64 0), .c (.int .i64 6), .c (.int .i64 6)], (some (71, false))⟩,
    ⟨some 74, .p (.un .not (.t 73)), (some (71, false))⟩,
    ⟨some 75, .p (.pick (.t 71) (.c (.bool true)) (.t 74)), none⟩,
    ⟨some 76, .p (.mov (.t 75)), none⟩,
    ⟨some 77, .p (.mov (.t 9)), (some (76, false))⟩,
    ⟨some 78, .p (.mov (.t 77)), (some (76, false))⟩,
    ⟨some 79, .p (.loadL 7 2 true none), (some (78, true))⟩,
    ⟨some 80, .p (.mov (.t 6)), (some (78, true))⟩,
    ⟨some 81, .calli (.f 39) [.t 79, .t 80], (some (78, true))⟩,
    ⟨some 82, .p (.un .not (.t 81)), (some (78, true))⟩,
    ⟨some 83, .p (.pick (.t 78) (.t 82) (.c (.bool false))), (some (76, false))⟩,
    ⟨some 84, .p (.pick (.t 76) (.c (.bool true)) (.t 83)), none⟩])
  (.cond (.t 84) (.seq (.reg [⟨some 4, .p (.mov (.c (.bool false))), none⟩])
  .ret) .skip))
  (.seq (.reg [⟨some 85, .p (.lad 2 1), none⟩,
    ⟨some 86, .p (.loadL 2 1 false (some (.t 85))), none⟩,
    ⟨some 87, .p (.mov (.t 5)), none⟩,
    ⟨some 88, .p (.iaddr none 4 (.t 86) (.t 87)), none⟩,
    ⟨some 89, .p (.loadC 4 true (.t 88)), none⟩,
    ⟨some 11, .p (.allocL 11 [.int .i64 0, .int .i64 0, .int .i64 0, .int .i64 0]), none⟩,
    ⟨none, .p (.storeL 11 4 none (.t 89)), none⟩])
  (.seq (.reg [⟨some 91, .p (.loadL 2 6 true none), none⟩,
    ⟨some 92, .p (.mov (.t 5)), none⟩,
    ⟨some 93, .p (.lad 7 0), none⟩,
    ⟨some 94, .p (.loadL 7 1 false (some (.t 93))), none⟩,
    ⟨some 95, .calli (.f 31) [.t 91, .t 92, .t 94], none⟩,
    ⟨some 90, .p (.mov (.t 95)), none⟩,
    ⟨some 96, .p (.extract (.t 90) 0), none⟩,
    ⟨some 97, .p (.extract (.t 90) 1), none⟩,
    ⟨some 12, .p (.mov (.t 96)), none⟩,
    ⟨some 13, .p (.mov (.t 97)), none⟩])
  (.seq (.reg [⟨some 99, .p (.loadL 2 6 true none), none⟩,
    ⟨some 100, .p (.mov (.t 5)), none⟩,
    ⟨some 101, .p (.lad 7 1), none⟩,
    ⟨some 102, .p (.loadL 7 1 false (some (.t 101))), none⟩,
    ⟨some 103, .calli (.f 31) [.t 99, .t 100, .t 102], none⟩,
    ⟨some 98, .p (.mov (.t 103)), none⟩,
    ⟨some 104, .p (.extract (.t 98) 0), none⟩,
    ⟨some 105, .p (.extract (.t 98) 1), none⟩,
    ⟨some 14, .p (.mov (.t 104)), none⟩,
    ⟨some 15, .p (.mov (.t 105)), none⟩])
  (.seq (.reg [⟨some 106, .p (.mov (.t 13)), none⟩,
    ⟨some 107, .p (.bin .eql (.t 106) (.c (.int .i64 0))), none⟩,
    ⟨some 108, .p (.mov (.t 107)), none⟩,
    ⟨some 109, .p (.mov (.t 15)), (some (108, true))⟩,
    ⟨some 110, .p (.bin .eql (.t 109) (.c (.int .i64 0))), (some (108, true))⟩,
    ⟨some 111, .p (.pick (.t 108) (.t 110) (.c (.bool false))), none⟩,
    ⟨some 112, .p (.mov (.t 111)), none⟩,
    ⟨some 113, .p (.mov (.t 12)), (some (112, true))⟩,
    ⟨some 114, .p (.pick (.t 112) (.t 113) (.c (.bool false))), none⟩,
    ⟨some 115, .p (.mov (.t 114)), none⟩,
    ⟨some 116, .p (.mov (.t 14)), (some (115, true))⟩,
    ⟨some 117, .p (.pick (.t 115) (.t 116) (.c (.bool false))), none⟩,
    ⟨some 118, .p (.mov (.t 117)), none⟩,
    ⟨some 119, .p (.lad 7 1), (some (118, true))⟩,
    ⟨some 120, .p (.loadL 7 1 false (some (.t 119))), (some (118, true))⟩,
    ⟨some 121, .p (.lad 11 3), (some (118, true))⟩,
    ⟨some 122, .p (.loadL 11 1 false (some (.t 121))), (some (118, true))⟩,
    ⟨some 123, .p (.bin .leq (.t 120) (.t 122)), (some (118, true))⟩,
    ⟨some 124, .p (.pick (.t 118) (.t 123) (.c (.bool false))), none⟩,
    ⟨some 125, .p (.mov (.t 124)), none⟩,
    ⟨some 126, .p (.lad 7 0), (some (125, true))⟩,
    ⟨some 127, .p (.loadL 7 1 false (some (.t 126))), (some (125, true))⟩,
    ⟨some 128, .p (.lad 11 3), (some (125, true))⟩,
    ⟨some 129, .p (.loadL 11 1 false (some (.t 128))), (some (125, true))⟩,
    ⟨some 130, .p (.lad 11 2), (some (125, true))⟩,
    ⟨some 131, .p (.loadL 11 1 false (some (.t 130))), (some (125, true))⟩,
    ⟨some 132, .p (.lad 2 2), (some (125, true))⟩,
    ⟨some 133, .p (.iaddr (some 4) 1 (.t 132) (.t 131)), (some (125, true))⟩,
    ⟨some 134, .p (.loadL 2 1 false (some (.t 133))), (some (125, true))⟩,
    ⟨some 135, .p (.bin .sub (.t 129) (.t 134)), (some (125, true))⟩,
    ⟨some 136, .p (.bin .geq (.t 127) (.t 135)), (some (125, true))⟩,
    ⟨some 137, .p (.pick (.t 125) (.t 136) (.c (.bool false))), none⟩,
    ⟨some 138, .p (.mov (.t 137)), none⟩,
    ⟨some 139, .calli (.f 23) [], (some (138, true))⟩,
    ⟨some 140, .p (.pick (.t 138) (.t 139) (.c (.bool false))), none⟩,
    ⟨some 4, .p (.mov (.t 140)), none⟩])
  .ret)))))))))))
def g7_macadamlaw03_StoneEach : AFn := ⟨g7_macadamlaw03_StoneEach_c, [.t 4], 2⟩

/-- macadam/macadamlaw03.StoneHeap -/
def g8_macadamlaw03_StoneHeap_c : ACode := (.seq (.reg [⟨some 2, .p (.boxL 2 (.t 0)), none⟩,
    ⟨some 3, .p (.boxL 3 (.t 1)), none⟩,
    ⟨some 4, .p (.mov (.c (.bool false))), none⟩])
  (.seq (.seq (.reg [⟨some 19, .p (.loadL 2 6 true none), none⟩,
    ⟨some 20, .calli (.f 35) [.t 19], none⟩,
    ⟨some 21, .p (.un .not (.t 20)), none⟩])
  (.cond (.t 21) (.seq (.reg [⟨some 22, .calli (.f 23) [], none⟩,
    ⟨some 4, .p (.mov (.t 22)), none⟩])
  .ret) .skip))
  (.seq (.reg [⟨some 23, .p (.ladi 3 2 1 (.c (.int .i64 0))), none⟩,
    ⟨some 24, .p (.loadL 3 1 false (some (.t 23))), none⟩,
    ⟨some 25, .p (.lad 2 0), none⟩,
    ⟨some 26, .p (.loadL 2 1 false (some (.t 25))), none⟩,
    ⟨some 27, .p (.len (.t 26)), none⟩,
    ⟨some 28, .calli (.f 38) [.t 24, .t 27], none⟩,
    ⟨some 29, .p (.ladi 3 2 1 (.c (.int .i64 1))), none⟩,
    ⟨some 30, .p (.loadL 3 1 false (some (.t 29))), none⟩,
    ⟨some 31, .p (.lad 2 1), none⟩,
    ⟨some 32, .p (.loadL 2 1 false (some (.t 31))), none⟩,
    ⟨some 33, .p (.len (.t 32)), none⟩,
    ⟨some 34, .p (.bin .add (.t 33) (.c (.int .i64 1))), none⟩,
    ⟨some 35, .calli (.f 38) [.t 30, .t 34], none⟩,
    ⟨some 5, .p (.mov (.t 28)), none⟩,
    ⟨some 6, .p (.mov (.t 35)), none⟩])
  (.seq (.reg [⟨some 37, .p (.loadL 2 6 true none), none⟩,
    ⟨some 38, .p (.mov (.t 5)), none⟩,
    ⟨some 39, .calli (.f 21) [.t 37, .t 38, .c (.int .i64 0)], none⟩,
    ⟨some 36, .p (.mov (.t 39)), none⟩,
    ⟨some 40, .p (.extract (.t 36) 0), none⟩,
    ⟨some 41, .p (.extract (.t 36) 1), none⟩,
    ⟨some 7, .p (.allocL 7 [.int .i64 0, .int .i64 0]), none⟩,
    ⟨none, .p (.storeL 7 2 none (.t 40)), none⟩,
    ⟨some 8, .p (.mov (.t 41)), none⟩])
  (.seq (.reg [⟨some 43, .p (.loadL 2 6 true none), none⟩,
    ⟨some 44, .p (.mov (.t 5)), none⟩,
    ⟨some 45, .p (.lad 2 1), none⟩,
    ⟨some 46, .p (.loadL 2 1 false (some (.t 45))), none⟩,
    ⟨some 47, .p (.len (.t 46)), none⟩,
    ⟨some 48, .calli (.f 21) [.t 43, .t 44, .t 47], none⟩,
    ⟨some 42, .p (.mov (.t 48)), none⟩,
    ⟨some 49, .p (.extract (.t 42) 0), none⟩,
    ⟨some 50, .p (.extract (.t 42) 1), none⟩,
    ⟨some 9, .p (.allocL 9 [.int .i64 0, .int .i64 0]), none⟩,
    ⟨none, .p (.storeL 9 2 none (.t 49)), none⟩,
    ⟨some 10, .p (.mov (.t 50)), none⟩])
  (.seq (.reg [⟨some 52, .p (.loadL 2 6 true none), none⟩,
    ⟨some 53, .p (.mov (.t 5)), none⟩,
    ⟨some 54, .p (.mov (.t 6)), none⟩,
    ⟨some 55, .calli (.f 21) [.t 52, .t 53, .t 54], none⟩,
    ⟨some 51, .p (.mov (.t 55)), none⟩,
    ⟨some 56, .p (.extract (.t 51) 0), none⟩,
    ⟨some 57, .p (.extract (.t 51) 1), none⟩,
    ⟨some 11, .p (.allocL 11 [.int .i64 0, .int .i64 0]), none⟩,
    ⟨none, .p (.storeL 11 2 none (.t 56)), none⟩,
    ⟨some 12, .p (.mov (.t 57)), none⟩])
  (.seq (.seq (.reg [⟨some 58, .p (.mov (.t 8)), none⟩,
    ⟨some 59, .p (.bin .neq (.t 58) (.c (.int .i64 0))), none⟩])
  (.cond (.t 59) (.seq (.reg [⟨some 60, .p (.mov (.t 8)), none⟩,
    ⟨some 61, .p (.bin .eql (.t 60) (.c (.int .i64 32))), none⟩,
    ⟨some 62, .p (.mov (.t 61)), none⟩,
    ⟨some 63, .p (.mov (.t 10)), (some (62, true))⟩,
    ⟨some 64, .p (.mov (.t 8)), (some (62, true))⟩,
    ⟨some 65, .p (.bin .eql (.t 63) (.t 64)), (some (62, true))⟩,
    ⟨some 66, .p (.pick (.t 62) (.t 65) (.c (.bool false))), none⟩,
    ⟨some 67, .p (.mov (.t 66)), none⟩,
    ⟨some 68, .p (.mov (.t 12)), (some (67, true))⟩,
    ⟨some 69, .p (.mov (.t 8)), (some (67, true))⟩,
    ⟨some 70, .p (.bin .eql (.t 68) (.t 69)), (some (67, true))⟩,
    ⟨some 71, .p (.pick (.t 67) (.t 70) (.c (.bool false))), none⟩,
    ⟨some 72, .p (.mov (.t 71)), none⟩,
    ⟨some 73, .calli (.f 23) [], (some (72, true))⟩,
    ⟨some 74, .p (.pick (.t 72) (.t 73) (.c (.bool false))), none⟩,
    ⟨some 4, .p (.mov (.t 74)), none⟩])
  .ret) .skip))
  (.seq (.seq (.reg [⟨some 75, .p (.mov (.t 10)), none⟩,
    ⟨some 76, .p (.bin .neq (.t 75) (.c (.int .i64 0))), none⟩,
    ⟨some 77, .p (.mov (.t 76)), none⟩,
    ⟨some 78, .p (.mov (.t 12)), (some (77, false))⟩,
    ⟨some 79, .p (.bin .neq (.t 78) (.c (.int .i64 0))), (some (77, false))⟩,
    ⟨some 80, .p (.pick (.t 77) (.c (.bool true)) (.t 79)), none⟩,
    ⟨some 81, .p (.mov (.t 80)), none⟩,
    ⟨some 82, .p (.lad 2 0), (some (81, false))⟩,
    ⟨some 83, .p (.loadL 2 1 false (some (.t 82))), (some (81, false))⟩,
    ⟨some 84, .p (.mov (.t 5)), (some (81, false))⟩,
    ⟨some 85, .p (.iaddr none 4 (.t 83) (.t 84)), (some (81, false))⟩,
    ⟨some 86, .p (.faddr 0 (.t 85)), (some (81, false))⟩,
    ⟨some 87, .p (.loadC 2 true (.t 86)), (some (81, false))⟩,
    ⟨some 88, .p (.loadL 7 2 true none), (some (81, false))⟩,
    ⟨some 89, .calli (.f 43) [.t 87, .t 88], (some (81, false))⟩,
    ⟨some 90, .p (.un .not (.t 89)), (some (81, false))⟩,
    ⟨some 91, .p (.pick (.t 81) (.c (.bool true)) (.t 90)), none⟩,
    ⟨some 92, .p (.mov (.t 91)), none⟩,
    ⟨some 93, .p (.lad 2 0), (some (92, false))⟩,
    ⟨some 94, .p (.loadL 2 1 false (some (.t 93))), (some (92, false))⟩,
    ⟨some 95, .p (.mov (.t 5)), (some (92, false))⟩,
    ⟨some 96, .p (.iaddr none 4 (.t 94) (.t 95)), (some (92, false))⟩,
    ⟨some 97, .p (.faddr 2 (.t 96)), (some (92, false))⟩,
    ⟨some 98, .p (.loadC 2 true (.t 97)), (some (92, false))⟩,
    ⟨some 99, .p (.loadL 9 2 true none), (some (92, false))⟩,
    ⟨some 100, .calli (.f 43) [.t 98, .t 99], (some (92, false))⟩,
    ⟨some 101, .p (.un .not (.t 100)), (some (92, false))⟩,
    ⟨some 102, .p (.pick (.t 92) (.c (.bool true)) (.t 101)), none⟩,
    ⟨some 103, .p (.mov (.t 102)), none⟩,
    ⟨some 104, .p (.lad 11 0), (some (103, false))⟩,
    ⟨some 105, .p (.loadL 11 1 false (some (.t 104))), (some (103, false))⟩,
    ⟨some 106, .p (.bin .lss (.t 105) (.c (.int .i64 0))), (some (103, false))⟩,
    ⟨some 107, .p (.pick (.t 103) (.c (.bool true)) (.t 106)), none⟩,
    ⟨some 108, .p (.mov (.t 107)), none⟩,
    ⟨some 109, .p (.lad 11 0), (some (108, false))⟩,
    ⟨some 110, .p (.loadL 11 1 false (some (.t 109))), (some (108, false))⟩,
    ⟨some 111, .p (.lad 11 1), (some (108, false))⟩,
    ⟨some 112, .p (.loadL 11 1 false (some (.t 111))), (some (108, false))⟩,
    ⟨some 113, .p (.bin .gtr (.t 110) (.t 112)), (some (108, false))⟩,
    ⟨some 114, .p (.pick (.t 108) (.c (.bool true)) (.t 113)), none⟩])
  (.cond (.t 114) (.seq (.reg [⟨some 4, .p (.mov (.c (.bool false))), none⟩])
  .ret) .skip))
  (.seq (.seq (.reg [⟨some 115, .p (.mov (.t 6)), none⟩,
    ⟨some 116, .p (.lad 2 1), none⟩,
    ⟨some 117, .p (.loadL 2 1 false (some (.t 116))), none⟩,
    ⟨some 118, .p (.len (.t 117)), none⟩,
    ⟨some 119, .p (.bin .eql (.t 115) (.t 118)), none⟩])
  (.cond (.t 119) (.seq (.reg [⟨some 120, .p (.loadL 11 2 true none), none⟩,
    ⟨some 121, .p (.loadL 9 2 true none), none⟩,
    ⟨some 122, .p (.eqn (some 2) false (.t 120) (.t 121)), none⟩,
    ⟨some 123, .p (.mov (.t 122)), none⟩,
    ⟨some 124, .calli (.f 23) [], (some (123, true))⟩,
    ⟨some 125, .p (.pick (.t 123) (.t 124) (.c (.bool false))), none⟩,
    ⟨some 4, .p (.mov (.t 125)), none⟩])
  .ret) .skip))
  (.seq (.reg [⟨some 127, .p (.loadL 2 6 true none), none⟩,
    ⟨some 128, .p (.mov (.t 5)), none⟩,
    ⟨some 129, .p (.mov (.t 6)), none⟩,
    ⟨some 130, .p (.bin .add (.t 129) (.c (.int .i64 1))), none⟩,
    ⟨some 131, .calli (.f 21) [.t 127, .t 128, .t 130], none⟩,
    ⟨some 126, .p (.mov (.t 131)), none⟩,
    ⟨some 132, .p (.extract (.t 126) 0), none⟩,
    ⟨some 133, .p (.extract (.t 126) 1), none⟩,
    ⟨some 13, .p (.allocL 13 [.int .i64 0, .int .i64 0]), none⟩,
    ⟨none, .p (.storeL 13 2 none (.t 132)), none⟩,
    ⟨some 14, .p (.mov (.t 133)), none⟩])
  (.seq (.reg [⟨some 135, .p (.loadL 2 6 true none), none⟩,
    ⟨some 136, .p (.mov (.t 6)), none⟩,
    ⟨some 137, .calli (.f 19) [.t 135, .t 136], none⟩,
    ⟨some 134, .p (.mov (.t 137)), none⟩,
    ⟨some 138, .p (.extract (.t 134) 0), none⟩,
    ⟨some 139, .p (.extract (.t 134) 1), none⟩,
    ⟨some 15, .p (.allocL 15 [.int .i64 0, .int .i64 0]), none⟩,
    ⟨none, .p (.storeL 15 2 none (.t 138)), none⟩,
    ⟨some 16, .p (.mov (.t 139)), none⟩])
  (.seq (.seq (.reg [⟨some 140, .p (.mov (.t 14)), none⟩,
    ⟨some 141, .p (.bin .neq (.t 140) (.c (.int .i64 0))), none⟩,
    ⟨some 142, .p (.mov (.t 141)), none⟩,
    ⟨some 143, .p (.mov (.t 16)), (some (142, false))⟩,
    ⟨some 144, .p (.bin .neq (.t 143) (.c (.int .i64 0))), (some (142, false))⟩,
    ⟨some 145, .p (.pick (.t 142) (.c (.bool true)) (.t 144)), none⟩])
  (.cond (.t 145) (.seq (.reg [⟨some 4, .p (.mov (.c (.bool false))), none⟩])
  .ret) .skip))
  (.seq (.reg [⟨some 146, .p (.lad 2 1), none⟩,
    ⟨some 147, .p (.loadL 2 1 false (some (.t 146))), none⟩,
    ⟨some 148, .p (.mov (.t 6)), none⟩,
    ⟨some 149, .p (.iaddr none 4 (.t 147) (.t 148)), none⟩,
    ⟨some 150, .p (.loadC 4 true (.t 149)), none⟩,
    ⟨some 151, .calli (.f 41) [.c (.int .i64 0)], none⟩,
    ⟨some 17, .p (.allocL 17 [.int .i64 0, .int .i64 0, .int .i64 0, .int .i64 0]), none⟩,
    ⟨some 18, .p (.allocL 18 [.int .i64 0, .int .i64 0]), none⟩,
    ⟨none, .p (.storeL 17 4 none (.t 150)), none⟩,
    ⟨none, .p (.storeL 18 2 none (.t 151)), none⟩])
  (.seq (.seq (.reg [⟨some 152, .p (.mov (.t 5)), none⟩])
  (.block 0 (.seq (.reg [⟨some 154, .p (.lad 17 0), none⟩,
    ⟨some 155, .p (.loadL 17 1 false (some (.t 154))), none⟩,
    ⟨some 156, .p (.bin .eql (.t 152) (.t 155)), none⟩,
    ⟨some 153, .p (.mov (.t 156)), none⟩])
  (.cond (.t 153) (.reg [⟨some 157, .p (.lad 15 1), none⟩,
    ⟨some 158, .p (.loadL 15 1 false (some (.t 157))), none⟩,
    ⟨some 159, .p (.un .neg (.t 158)), none⟩,
    ⟨some 160, .p (.lad 15 0), none⟩,
    ⟨some 161, .p (.loadL 15 1 false (some (.t 160))), none⟩,
    ⟨some 162, .p (.un .neg (.t 161)), none⟩,
    ⟨some 163, .calli (.f 44) [.t 159, .t 162], none⟩,
    ⟨none, .p (.storeL 18 2 none (.t 163)), none⟩]) (.seq (.reg [⟨some 165, .p (.lad 17 1), none⟩,
    ⟨some 166, .p (.loadL 17 1 false (some (.t 165))), none⟩,
    ⟨some 167, .p (.bin .eql (.t 152) (.t 166)), none⟩,
    ⟨some 164, .p (.mov (.t 167)), none⟩])
  (.cond (.t 164) (.reg [⟨some 168, .p (.loadL 15 2 true none), none⟩,
    ⟨none, .p (.storeL 18 2 none (.t 168)), none⟩]) .skip))))))
  (.seq (.reg [⟨some 169, .p (.loadL 11 2 true none), none⟩,
    ⟨some 170, .p (.loadL 18 2 true none), none⟩,
    ⟨some 171, .calli (.f 45) [.t 169, .t 170], none⟩,
    ⟨some 172, .p (.loadL 13 2 true none), none⟩,
    ⟨some 173, .calli (.f 43) [.t 171, .t 172], none⟩,
    ⟨some 174, .p (.mov (.t 173)), none⟩,
    ⟨some 175, .calli (.f 23) [], (some (174, true))⟩,
    ⟨some 176, .p (.pick (.t 174) (.t 175) (.c (.bool false))), none⟩,
    ⟨some 4, .p (.mov (.t 176)), none⟩])
  .ret)))))))))))))))
def g8_macadamlaw03_StoneHeap : AFn := ⟨g8_macadamlaw03_StoneHeap_c, [.t 4], 2⟩

/-- macadam/macadamlaw03.StoneMore -/
def g9_macadamlaw03_StoneMore_r : ACode := (.seq (.reg [⟨some 90, .p (.loadL 2 6 true none), none⟩,
    ⟨some 91, .calli (.f 33) [.t 90], none⟩,
    ⟨some 89, .p (.mov (.t 91)), none⟩,
    ⟨some 92, .p (.extract (.t 89) 0), none⟩,
    ⟨some 93, .p (.extract (.t 89) 1), none⟩,
    ⟨some 9, .p (.mov (.t 92)), none⟩,
    ⟨some 10, .p (.mov (.t 93)), none⟩])
  (.seq (.reg [⟨some 95, .p (.loadL 7 6 true none), none⟩,
    ⟨some 96, .calli (.f 33) [.t 95], none⟩,
    ⟨some 94, .p (.mov (.t 96)), none⟩,
    ⟨some 97, .p (.extract (.t 94) 0), none⟩,
    ⟨some 98, .p (.extract (.t 94) 1), none⟩,
    ⟨some 11, .p (.mov (.t 97)), none⟩,
    ⟨some 12, .p (.mov (.t 98)), none⟩])
  (.seq (.seq (.reg [⟨some 99, .p (.mov (.t 10)), none⟩,
    ⟨some 100, .p (.bin .neq (.t 99) (.c (.int .i64 0))), none⟩,
    ⟨some 101, .p (.mov (.t 100)), none⟩,
    ⟨some 102, .p (.mov (.t 10)), (some (101, true))⟩,
    ⟨some 103, .p (.bin .neq (.t 102) (.c (.int .i64 32))), (some (101, true))⟩,
    ⟨some 104, .p (.pick (.t 101) (.t 103) (.c (.bool false))), none⟩,
    ⟨some 105, .p (.mov (.t 104)), none⟩,
    ⟨some 106, .p (.mov (.t 12)), (some (105, false))⟩,
    ⟨some 107, .p (.bin .neq (.t 106) (.c (.int .i64 0))), (some (105, false))⟩,
    ⟨some 108, .p (.mov (.t 107)), (some (105, false))⟩,
    ⟨some 109, .p (.mov (.t 12)), (some (108, true))⟩,
    ⟨some 110, .p (.mov (.t 10)), (some (108, true))⟩,
    ⟨some 111, .p (.bin .neq (.t 109) (.t 110)), (some (108, true))⟩,
    ⟨some 112, .p (.mov (.t 111)), (some (108, true))⟩,
    ⟨some 113, .p (.mov (.t 10)), (some (112, false))⟩,
    ⟨some 114, .p (.bin .eql (.t 113) (.c (.int .i64 0))), (some (112, false))⟩,
    ⟨some 115, .p (.pick (.t 112) (.c (.bool true)) (.t 114)), (some (108, true))⟩,
    ⟨some 116, .p (.pick (.t 108) (.t 115) (.c (.bool false))), (some (105, false))⟩,
    ⟨some 117, .p (.pick (.t 105) (.c (.bool true)) (.t 116)), none⟩,
    ⟨some 118, .p (.mov (.t 117)), none⟩,
    ⟨some 119, .p (.mov (.t 10)), (some (118, false))⟩,
    ⟨some 120, .p (.bin .eql (.t 119) (.c (.int .i64 0))), (some (118, false))⟩,
    ⟨some 121, .p (.mov (.t 120)), (some (118, false))⟩,
    ⟨some 122, .p (.mov (.t 11)), (some (121, true))⟩,
    ⟨some 123, .p (.len (.t 122)), (some (121, true))⟩,
    ⟨some 124, .p (.mov (.t 9)), (some (121, true))⟩,
    ⟨some 125, .p (.len (.t 124)), (some (121, true))⟩,
    ⟨some 126, .p (.bin .gtr (.t 123) (.t 125)), (some (121, true))⟩,
    ⟨some 127, .p (.pick (.t 121) (.t 126) (.c (.bool false))), (some (118, false))⟩,
    ⟨some 128, .p (.pick (.t 118) (.c (.bool true)) (.t 127)), none⟩])
  (.cond (.t 128) (.seq (.reg [⟨some 4, .p (.mov (.c (.bool false))), none⟩])
  .ret) .skip))
  (.seq (.reg [⟨some 130, .p (.loadL 2 6 true none), none⟩,
    ⟨some 131, .calli (.f 15) [.t 130], none⟩,
    ⟨some 129, .p (.mov (.t 131)), none⟩,
    ⟨some 132, .p (.extract (.t 129) 0), none⟩,
    ⟨some 133, .p (.extract (.t 129) 1), none⟩,
    ⟨some 13, .p (.mov (.t 132)), none⟩,
    ⟨some 14, .p (.mov (.t 133)), none⟩])
  (.seq (.reg [⟨some 135, .p (.loadL 7 6 true none), none⟩,
    ⟨some 136, .calli (.f 15) [.t 135], none⟩,
    ⟨some 134, .p (.mov (.t 136)), none⟩,
    ⟨some 137, .p (.extract (.t 134) 0), none⟩,
    ⟨some 138, .p (.extract (.t 134) 1), none⟩,
    ⟨some 15, .p (.mov (.t 137)), none⟩,
    ⟨some 16, .p (.mov (.t 138)), none⟩])
  (.seq (.seq (.reg [⟨some 139, .p (.mov (.t 14)), none⟩,
    ⟨some 140, .p (.bin .neq (.t 139) (.c (.int .i64 0))), none⟩,
    ⟨some 141, .p (.mov (.t 140)), none⟩,
    ⟨some 142, .p (.mov (.t 16)), (some (141, false))⟩,
    ⟨some 143, .p (.bin .neq (.t 142) (.c (.int .i64 0))), (some (141, false))⟩,
    ⟨some 144, .p (.pick (.t 141) (.c (.bool true)) (.t 143)), none⟩,
    ⟨some 145, .p (.mov (.t 144)), none⟩,
    ⟨some 146, .p (.mov (.t 13)), (some (145, false))⟩,
    ⟨some 147, .p (.mov (.t 146)), (some (145, false))⟩,
    ⟨some 148, .p (.mov (.t 15)), (some (147, true))⟩,
    ⟨some 149, .p (.un .not (.t 148)), (some (147, true))⟩,
    ⟨some 150, .p (.pick (.t 147) (.t 149) (.c (.bool false))), (some (145, false))⟩,
    ⟨some 151, .p (.pick (.t 145) (.c (.bool true)) (.t 150)), none⟩])
  (.cond (.t 151) (.seq (.reg [⟨some 4, .p (.mov (.c (.bool false))), none⟩])
  .ret) .skip))
  (.seq (.seq (.reg [⟨some 152, .p (.mov (.t 13)), none⟩,
    ⟨some 153, .p (.un .not (.t 152)), none⟩])
  (.cond (.t 153) (.seq (.reg [⟨some 154, .calli (.f 23) [], none⟩,
    ⟨some 4, .p (.mov (.t 154)), none⟩])
  .ret) .skip))
  (.seq (.reg [⟨some 156, .p (.loadL 2 6 true none), none⟩,
    ⟨some 157, .calli (.f 24) [.t 156], none⟩,
    ⟨some 155, .p (.mov (.t 157)), none⟩,
    ⟨some 158, .p (.extract (.t 155) 0), none⟩,
    ⟨some 159, .p (.extract (.t 155) 1), none⟩,
    ⟨some 17, .p (.allocL 17 [.int .i64 0, .int .i64 0]), none⟩,
    ⟨none, .p (.storeL 17 2 none (.t 158)), none⟩,
    ⟨some 10, .p (.mov (.t 159)), none⟩])
  (.seq (.reg [⟨some 161, .p (.loadL 7 6 true none), none⟩,
    ⟨some 162, .calli (.f 24) [.t 161], none⟩,
    ⟨some 160, .p (.mov (.t 162)), none⟩,
    ⟨some 163, .p (.extract (.t 160) 0), none⟩,
    ⟨some 164, .p (.extract (.t 160) 1), none⟩,
    ⟨some 18, .p (.allocL 18 [.int .i64 0, .int .i64 0]), none⟩,
    ⟨none, .p (.storeL 18 2 none (.t 163)), none⟩,
    ⟨some 12, .p (.mov (.t 164)), none⟩])
  (.seq (.reg [⟨some 166, .p (.loadL 2 6 true none), none⟩,
    ⟨some 167, .p (.mov (.t 6)), none⟩,
    ⟨some 168, .calli (.f 26) [.t 166, .t 167, .c (.int .i64 1)], none⟩,
    ⟨some 165, .p (.mov (.t 168)), none⟩,
    ⟨some 169, .p (.extract (.t 165) 0), none⟩,
    ⟨some 170, .p (.extract (.t 165) 1), none⟩,
    ⟨some 19, .p (.allocL 19 [.int .i64 0, .int .i64 0]), none⟩,
    ⟨none, .p (.storeL 19 2 none (.t 169)), none⟩,
    ⟨some 14, .p (.mov (.t 170)), none⟩])
  (.seq (.reg [⟨some 172, .p (.loadL 7 6 true none), none⟩,
    ⟨some 173, .p (.mov (.t 6)), none⟩,
    ⟨some 174, .calli (.f 26) [.t 172, .t 173, .c (.int .i64 1)], none⟩,
    ⟨some 171, .p (.mov (.t 174)), none⟩,
    ⟨some 175, .p (.extract (.t 171) 0), none⟩,
    ⟨some 176, .p (.extract (.t 171) 1), none⟩,
    ⟨some 20, .p (.allocL 20 [.int .i64 0, .int .i64 0]), none⟩,
    ⟨none, .p (.storeL 20 2 none (.t 175)), none⟩,
    ⟨some 16, .p (.mov (.t 176)), none⟩])
  (.seq (.reg [⟨some 178, .p (.loadL 2 6 true none), none⟩,
    ⟨some 179, .calli (.f 28) [.t 178], none⟩,
    ⟨some 177, .p (.mov (.t 179)), none⟩,
    ⟨some 180, .p (.extract (.t 177) 0), none⟩,
    ⟨some 181, .p (.extract (.t 177) 1), none⟩,
    ⟨some 21, .p (.mov (.t 180)), none⟩,
    ⟨some 22, .p (.mov (.t 181)), none⟩])
  (.seq (.reg [⟨some 183, .p (.loadL 7 6 true none), none⟩,
    ⟨some 184, .calli (.f 28) [.t 183], none⟩,
    ⟨some 182, .p (.mov (.t 184)), none⟩,
    ⟨some 185, .p (.extract (.t 182) 0), none⟩,
    ⟨some 186, .p (.extract (.t 182) 1), none⟩,
    ⟨some 23, .p (.mov (.t 185)), none⟩,
    ⟨some 24, .p (.mov (.t 186)), none⟩])
  (.seq (.seq (.reg [⟨some 187, .p (.mov (.t 10)), none⟩,
    ⟨some 188, .p (.bin .neq (.t 187) (.c (.int .i64 0))), none⟩,
    ⟨some 189, .p (.mov (.t 188)), none⟩,
    ⟨some 190, .p (.mov (.t 12)), (some (189, false))⟩,
    ⟨some 191, .p (.bin .neq (.t 190) (.c (.int .i64 0))), (some (189, false))⟩,
    ⟨some 192, .p (.pick (.t 189) (.c (.bool true)) (.t 191)), none⟩,
    ⟨some 193, .p (.mov (.t 192)), none⟩,
    ⟨some 194, .p (.mov (.t 14)), (some (193, false))⟩,
    ⟨some 195, .p (.bin .neq (.t 194) (.c (.int .i64 0))), (some (193, false))⟩,
    ⟨some 196, .p (.pick (.t 193) (.c (.bool true)) (.t 195)), none⟩,
    ⟨some 197, .p (.mov (.t 196)), none⟩,
    ⟨some 198, .p (.mov (.t 16)), (some (197, false))⟩,
    ⟨some 199, .p (.bin .neq (.t 198) (.c (.int .i64 0))), (some (197, false))⟩,
    ⟨some 200, .p (.pick (.t 197) (.c (.bool true)) (.t 199)), none⟩,
    ⟨some 201, .p (.mov (.t 200)), none⟩,
    ⟨some 202, .p (.mov (.t 22)), (some (201, false))⟩,
    ⟨some 203, .p (.bin .neq (.t 202) (.c (.int .i64 0))), (some (201, false))⟩,
    ⟨some 204, .p (.pick (.t 201) (.c (.bool true)) (.t 203)), none⟩,
    ⟨some 205, .p (.mov (.t 204)), none⟩,
    ⟨some 206, .p (.mov (.t 24)), (some (205, false))⟩,
    ⟨some 207, .p (.bin .neq (.t 206) (.c (.int .i64 0))), (some (205, false))⟩,
    ⟨some 208, .p (.pick (.t 205) (.c (.bool true)) (.t 207)), none⟩,
    ⟨some 209, .p (.mov (.t 208)), none⟩,
    ⟨some 210, .p (.loadL 18 2 true none), (some (209, false))⟩,
    ⟨some 211, .p (.loadL 17 2 true none), (some (209, false))⟩,
    ⟨some 212, .calli (.f 43) [.t 210, .t 211], (some (209, false))⟩,
    ⟨some 213, .p (.un .not (.t 212)), (some (209, false))⟩,
    ⟨some 214, .p (.pick (.t 209) (.c (.bool true)) (.t 213)), none⟩,
    ⟨some 215, .p (.mov (.t 214)), none⟩,
    ⟨some 216, .p (.loadL 20 2 true none), (some (215, false))⟩,
    ⟨some 217, .p (.loadL 19 2 true none), (some (215, false))⟩,
    ⟨some 218, .calli (.f 43) [.t 216, .t 217], (some (215, false))⟩,
    ⟨some 219, .p (.un .not (.t 218)), (some (215, false))⟩,
    ⟨some 220, .p (.pick (.t 215) (.c (.bool true)) (.t 219)), none⟩,
    ⟨some 221, .p (.mov (.t 220)), none⟩,
    ⟨some 222, .p (.mov (.t 23)), (some (221, false))⟩,
    ⟨some 223, .calli (.f 46) [.t 222], (some (221, false))⟩,
    ⟨some 224, .p (.mov (.t 21)), (some (221, false))⟩,
    ⟨some 225, .calli (.f 46) [.t 224], (some (221, false))⟩,
    ⟨some 226, .p (.bin .andNot (.t 223) (.t 225)), (some (221, false))⟩,
    ⟨some 227, .p (.bin .neq (.t 226) (.c (.int .i64 0))), (some (221, false))⟩,
    ⟨some 228, .p (.pick (.t 221) (.c (.bool true)) (.t 227)), none⟩])
  (.cond (.t 228) (.seq (.reg [⟨some 4, .p (.mov (.c (.bool false))), none⟩])
  .ret) .skip))
  (.seq (.seq (.reg [⟨some 229, .p (.lad 2 1), none⟩,
    ⟨some 230, .p (.loadL 2 1 false (some (.t 229))), none⟩,
    ⟨some 231, .p (.len (.t 230)), none⟩,
    ⟨some 232, .p (.bin .eql (.t 231) (.c (.int .i64 0))), none⟩])
  (.cond (.t 232) (.seq (.reg [⟨some 233, .calli (.f 23) [], none⟩,
    ⟨some 4, .p (.mov (.t 233)), none⟩])
  .ret) .skip))
  (.seq (.reg [⟨some 234, .p (.ladi 3 4 1 (.c (.int .i64 2))), none⟩,
    ⟨some 235, .p (.loadL 3 1 false (some (.t 234))), none⟩,
    ⟨some 236, .p (.lad 2 1), none⟩,
    ⟨some 237, .p (.loadL 2 1 false (some (.t 236))), none⟩,
    ⟨some 238, .p (.len (.t 237)), none⟩,
    ⟨some 239, .calli (.f 38) [.t 235, .t 238], none⟩,
    ⟨some 25, .p (.mov (.t 239)), none⟩])
  (.seq (.reg [⟨some 241, .p (.loadL 2 6 true none), none⟩,
    ⟨some 242, .p (.mov (.t 25)), none⟩,
    ⟨some 243, .calli (.f 19) [.t 241, .t 242], none⟩,
    ⟨some 240, .p (.mov (.t 243)), none⟩,
    ⟨some 244, .p (.extract (.t 240) 0), none⟩,
    ⟨some 245, .p (.extract (.t 240) 1), none⟩,
    ⟨some 26, .p (.allocL 26 [.int .i64 0, .int .i64 0]), none⟩,
    ⟨none, .p (.storeL 26 2 none (.t 244)), none⟩,
    ⟨some 10, .p (.mov (.t 245)), none⟩])
  (.seq (.reg [⟨some 247, .p (.loadL 7 6 true none), none⟩,
    ⟨some 248, .p (.mov (.t 25)), none⟩,
    ⟨some 249, .calli (.f 19) [.t 247, .t 248], none⟩,
    ⟨some 246, .p (.mov (.t 249)), none⟩,
    ⟨some 250, .p (.extract (.t 246) 0), none⟩,
    ⟨some 251, .p (.extract (.t 246) 1), none⟩,
    ⟨some 27, .p (.allocL 27 [.int .i64 0, .int .i64 0]), none⟩,
    ⟨none, .p (.storeL 27 2 none (.t 250)), none⟩,
    ⟨some 12, .p (.mov (.t 251)), none⟩])
  (.seq (.reg [⟨some 252, .p (.mov (.t 10)), none⟩,
    ⟨some 253, .p (.bin .eql (.t 252) (.c (.int .i64 0))), none⟩,
    ⟨some 254, .p (.mov (.t 253)), none⟩,
    ⟨some 255, .p (.mov (.t 12)), (some (254, true))⟩,
    ⟨some 256, .p (.bin .eql (.t 255) (.c (.int .i64 0))), (some (254, true))⟩,
    ⟨some 257, .p (.pick (.t 254) (.t 256) (.c (.bool false))), none⟩,
    ⟨some 258, .p (.mov (.t 257)), none⟩,
    ⟨some 259, .p (.loadL 27 2 true none), (some (258, true))⟩,
    ⟨some 260, .p (.loadL 26 2 true none), (some (258, true))⟩,
    ⟨some 261, .calli (.f 43) [.t 259, .t 260], (some (258, true))⟩,
    ⟨some 262, .p (.pick (.t 258) (.t 261) (.c (.bool false))), none⟩,
    ⟨some 263, .p (.mov (.t 262)), none⟩,
    ⟨some 264, .calli (.f 23) [], (some (263, true))⟩,
    ⟨some 265, .p (.pick (.t 263) (.t 264) (.c (.bool false))), none⟩,
    ⟨some 4, .p (.mov (.t 265)), none⟩])
  .ret)))))))))))))))))))
def g9_macadamlaw03_StoneMore_c : ACode := (.seq (.reg [⟨some 2, .p (.boxL 2 (.t 0)), none⟩,
    ⟨some 3, .p (.boxL 3 (.t 1)), none⟩,
    ⟨some 4, .p (.mov (.c (.bool false))), none⟩])
  (.seq (.seq (.reg [⟨some 28, .p (.loadL 2 6 true none), none⟩,
    ⟨some 29, .calli (.f 35) [.t 28], none⟩,
    ⟨some 30, .p (.un .not (.t 29)), none⟩])
  (.cond (.t 30) (.seq (.reg [⟨some 31, .calli (.f 23) [], none⟩,
    ⟨some 4, .p (.mov (.t 31)), none⟩])
  .ret) .skip))
  (.seq (.reg [⟨some 32, .p (.ladi 3 4 1 (.c (.int .i64 0))), none⟩,
    ⟨some 33, .p (.loadL 3 1 false (some (.t 32))), none⟩,
    ⟨some 34, .p (.lad 2 0), none⟩,
    ⟨some 35, .p (.loadL 2 1 false (some (.t 34))), none⟩,
    ⟨some 36, .p (.len (.t 35)), none⟩,
    ⟨some 37, .calli (.f 38) [.t 33, .t 36], none⟩,
    ⟨some 38, .p (.ladi 3 4 1 (.c (.int .i64 1))), none⟩,
    ⟨some 39, .p (.loadL 3 1 false (some (.t 38))), none⟩,
    ⟨some 40, .calli (.f 38) [.t 39, .c (.int .i64 4)], none⟩,
    ⟨some 5, .p (.mov (.t 37)), none⟩,
    ⟨some 6, .p (.mov (.t 40)), none⟩])
  (.seq (.reg [⟨some 41, .p (.loadL 2 6 true none), none⟩,
    ⟨some 7, .p (.allocL 7 [.sl [] .exact, .sl [] .exact, .int .i64 0, .int .i64 0, .int .i64 0, .int .i64 0]), none⟩,
    ⟨none, .p (.storeL 7 6 none (.t 41)), none⟩])
  (.seq (.reg [⟨some 42, .p (.bslice 4 [.int .i64 0, .int .i64 0, .int .i64 0, .int .i64 0] 0 []), none⟩,
    ⟨some 43, .p (.lad 2 0), none⟩,
    ⟨some 44, .p (.loadL 2 1 false (some (.t 43))), none⟩,
    ⟨some 45, .h (.appendM 4 32 (.t 42) (.t 44)), none⟩,
    ⟨some 46, .p (.lad 7 0), none⟩,
    ⟨none, .p (.storeL 7 1 (some (.t 46)) (.t 45)), none⟩])
  (.seq (.seq (.reg [⟨some 47, .p (.lad 7 0), none⟩,
    ⟨some 48, .p (.loadL 7 1 false (some (.t 47))), none⟩,
    ⟨some 49, .p (.mov (.t 5)), none⟩,
    ⟨some 50, .p (.iaddr none 4 (.t 48) (.t 49)), none⟩,
    ⟨some 8, .p (.mov (.t 50)), none⟩])
  (.seq (.reg [⟨some 51, .p (.ladi 3 4 1 (.c (.int .i64 3))), none⟩,
    ⟨some 52, .p (.loadL 3 1 false (some (.t 51))), none⟩,
    ⟨some 53, .calli (.f 38) [.t 52, .c (.int .i64 3)], none⟩])
  (.block 0 (.seq (.reg [⟨some 64, .p (.bin .eql (.t 53) (.c (.int .i64 0))), none⟩,
    ⟨some 63, .p (.mov (.t 64)), none⟩])
  (.cond (.t 63) (.reg [⟨some 65, .p (.mov (.t 8)), none⟩,
    ⟨some 66, .p (.mov (.t 8)), none⟩,
    ⟨some 67, .p (.nilchk (.t 66)), none⟩,
    ⟨some 68, .p (.faddr 2 (.t 67)), none⟩,
    ⟨some 69, .p (.faddr 1 (.t 68)), none⟩,
    ⟨some 70, .h (.load 1 false (.t 69)), none⟩,
    ⟨some 71, .p (.bin .add (.t 70) (.c (.int .i64 1))), none⟩,
    ⟨some 72, .p (.mn [.c (.int .i64 99), .t 71]), none⟩,
    ⟨some 73, .p (.nilchk (.t 65)), none⟩,
    ⟨some 74, .p (.faddr 2 (.t 73)), none⟩,
    ⟨some 75, .p (.faddr 1 (.t 74)), none⟩,
    ⟨none, .h (.store 1 (.t 75) (.t 72)), none⟩]) (.seq (.reg [⟨some 77, .p (.bin .eql (.t 53) (.c (.int .i64 1))), none⟩,
    ⟨some 76, .p (.mov (.t 77)), none⟩])
  (.cond (.t 76) (.reg [⟨some 78, .p (.mov (.t 8)), none⟩,
    ⟨some 79, .p (.mov (.t 8)), none⟩,
    ⟨some 80, .p (.nilchk (.t 79)), none⟩,
    ⟨some 81, .p (.faddr 2 (.t 80)), none⟩,
    ⟨some 82, .p (.faddr 0 (.t 81)), none⟩,
    ⟨some 83, .h (.load 1 false (.t 82)), none⟩,
    ⟨some 84, .p (.bin .sub (.t 83) (.c (.int .i64 1))), none⟩,
    ⟨some 85, .p (.mx [.c (.int .i64 0), .t 84]), none⟩,
    ⟨some 86, .p (.nilchk (.t 78)), none⟩,
    ⟨some 87, .p (.faddr 2 (.t 86)), none⟩,
    ⟨some 88, .p (.faddr 0 (.t 87)), none⟩,
    ⟨none, .h (.store 1 (.t 88) (.t 85)), none⟩]) (.reg [⟨some 54, .p (.mov (.t 6)), none⟩,
    ⟨some 55, .p (.mov (.t 6)), none⟩,
    ⟨some 56, .p (.lad 2 2), none⟩,
    ⟨some 57, .p (.iaddr (some 4) 1 (.t 56) (.t 55)), none⟩,
    ⟨some 58, .p (.loadL 2 1 false (some (.t 57))), none⟩,
    ⟨some 59, .p (.bin .add (.t 58) (.c (.int .i64 1))), none⟩,
    ⟨some 60, .p (.mn [.c (.int .i64 2), .t 59]), none⟩,
    ⟨some 61, .p (.lad 7 2), none⟩,
    ⟨some 62, .p (.iaddr (some 4) 1 (.t 61) (.t 54)), none⟩,
    ⟨none, .p (.storeL 7 1 (some (.t 62)) (.t 60)), none⟩]))))))))
  (.frzm 7 g9_macadamlaw03_StoneMore_r)))))))
def g9_macadamlaw03_StoneMore : AFn := ⟨g9_macadamlaw03_StoneMore_c, [.t 4], 2⟩

/-- macadam/macadamlaw03.StoneHonest -/
def g10_macadamlaw03_StoneHonest_l0 : ACode := (.seq (.seq (.reg [⟨some 66, .p (.mov (.t 16)), none⟩,
    ⟨some 67, .p (.lad 2 1), none⟩,
    ⟨some 68, .p (.loadL 2 1 false (some (.t 67))), none⟩,
    ⟨some 69, .p (.len (.t 68)), none⟩,
    ⟨some 70, .p (.bin .lss (.t 66) (.t 69)), none⟩])
  (.cond (.t 70) .skip (.exit 0)))
  (.seq (.block 1 (.seq (.seq (.reg [⟨some 73, .p (.lad 2 1), none⟩,
    ⟨some 74, .p (.loadL 2 1 false (some (.t 73))), none⟩,
    ⟨some 75, .p (.mov (.t 16)), none⟩,
    ⟨some 76, .p (.iaddr none 4 (.t 74) (.t 75)), none⟩,
    ⟨some 77, .p (.faddr 2 (.t 76)), none⟩,
    ⟨some 78, .p (.loadC 1 false (.t 77)), none⟩,
    ⟨some 79, .p (.mov (.t 6)), none⟩,
    ⟨some 80, .p (.bin .eql (.t 78) (.t 79)), none⟩])
  (.cond (.t 80) (.reg [⟨some 81, .p (.mov (.t 14)), none⟩,
    ⟨some 82, .p (.lad 2 1), none⟩,
    ⟨some 83, .p (.loadL 2 1 false (some (.t 82))), none⟩,
    ⟨some 84, .p (.mov (.t 16)), none⟩,
    ⟨some 85, .p (.iaddr none 4 (.t 83) (.t 84)), none⟩,
    ⟨some 86, .p (.faddr 3 (.t 85)), none⟩,
    ⟨some 87, .p (.loadC 1 false (.t 86)), none⟩,
    ⟨some 88, .p (.bin .add (.t 81) (.t 87)), none⟩,
    ⟨some 14, .p (.mov (.t 88)), none⟩]) .skip))
  (.seq (.reg [⟨some 89, .p (.lad 2 1), none⟩,
    ⟨some 90, .p (.loadL 2 1 false (some (.t 89))), none⟩,
    ⟨some 91, .p (.mov (.t 16)), none⟩,
    ⟨some 92, .p (.iaddr none 4 (.t 90) (.t 91)), none⟩,
    ⟨some 93, .p (.faddr 1 (.t 92)), none⟩,
    ⟨some 94, .p (.loadC 1 false (.t 93)), none⟩,
    ⟨some 95, .p (.bin .lss (.t 94) (.c (.int .i64 0))), none⟩])
  (.cond (.t 95) (.reg [⟨some 96, .p (.mov (.t 15)), none⟩,
    ⟨some 97, .p (.lad 2 1), none⟩,
    ⟨some 98, .p (.loadL 2 1 false (some (.t 97))), none⟩,
    ⟨some 99, .p (.mov (.t 16)), none⟩,
    ⟨some 100, .p (.iaddr none 4 (.t 98) (.t 99)), none⟩,
    ⟨some 101, .p (.faddr 3 (.t 100)), none⟩,
    ⟨some 102, .p (.loadC 1 false (.t 101)), none⟩,
    ⟨some 103, .p (.bin .add (.t 96) (.t 102)), none⟩,
    ⟨some 15, .p (.mov (.t 103)), none⟩]) .skip))))
  (.reg [⟨some 71, .p (.mov (.t 16)), none⟩,
    ⟨some 72, .p (.bin .add (.t 71) (.c (.int .i64 1))), none⟩,
    ⟨some 16, .p (.mov (.t 72)), none⟩])))
def g10_macadamlaw03_StoneHonest_c : ACode := (.seq (.reg [⟨some 2, .p (.boxL 2 (.t 0)), none⟩,
    ⟨some 3, .p (.boxL 3 (.t 1)), none⟩,
    ⟨some 4, .p (.mov (.c (.bool false))), none⟩])
  (.seq (.seq (.reg [⟨some 22, .p (.loadL 2 6 true none), none⟩,
    ⟨some 23, .calli (.f 35) [.t 22], none⟩,
    ⟨some 24, .p (.un .not (.t 23)), none⟩])
  (.cond (.t 24) (.seq (.reg [⟨some 25, .calli (.f 23) [], none⟩,
    ⟨some 4, .p (.mov (.t 25)), none⟩])
  .ret) .skip))
  (.seq (.reg [⟨some 26, .p (.loadL 2 6 true none), none⟩,
    ⟨some 5, .p (.allocL 5 [.sl [] .exact, .sl [] .exact, .int .i64 0, .int .i64 0, .int .i64 0, .int .i64 0]), none⟩,
    ⟨none, .p (.storeL 5 6 none (.t 26)), none⟩])
  (.seq (.reg [⟨some 27, .p (.build [.int .i64 0, .int .i64 0, .int .i64 0, .int .i64 0] []), none⟩,
    ⟨some 28, .p (.lad 5 2), none⟩,
    ⟨none, .p (.storeL 5 4 (some (.t 28)) (.t 27)), none⟩])
  (.seq (.reg [⟨some 29, .p (.ladi 3 3 1 (.c (.int .i64 1))), none⟩,
    ⟨some 30, .p (.loadL 3 1 false (some (.t 29))), none⟩,
    ⟨some 31, .calli (.f 38) [.t 30, .c (.int .i64 4)], none⟩,
    ⟨some 32, .p (.ladi 3 3 1 (.c (.int .i64 2))), none⟩,
    ⟨some 33, .p (.loadL 3 1 false (some (.t 32))), none⟩,
    ⟨some 34, .calli (.f 38) [.t 33, .c (.int .i64 100)], none⟩,
    ⟨some 6, .p (.mov (.t 31)), none⟩,
    ⟨some 7, .p (.mov (.t 34)), none⟩])
  (.seq (.reg [⟨some 36, .p (.loadL 5 6 true none), none⟩,
    ⟨some 37, .calli (.f 15) [.t 36], none⟩,
    ⟨some 35, .p (.mov (.t 37)), none⟩,
    ⟨some 38, .p (.extract (.t 35) 0), none⟩,
    ⟨some 39, .p (.extract (.t 35) 1), none⟩,
    ⟨some 8, .p (.mov (.t 38)), none⟩,
    ⟨some 9, .p (.mov (.t 39)), none⟩])
  (.seq (.reg [⟨some 41, .p (.loadL 5 6 true none), none⟩,
    ⟨some 42, .p (.mov (.t 6)), none⟩,
    ⟨some 43, .p (.mov (.t 7)), none⟩,
    ⟨some 44, .calli (.f 26) [.t 41, .t 42, .t 43], none⟩,
    ⟨some 40, .p (.mov (.t 44)), none⟩,
    ⟨some 45, .p (.extract (.t 40) 0), none⟩,
    ⟨some 46, .p (.extract (.t 40) 1), none⟩,
    ⟨some 10, .p (.allocL 10 [.int .i64 0, .int .i64 0]), none⟩,
    ⟨none, .p (.storeL 10 2 none (.t 45)), none⟩,
    ⟨some 11, .p (.mov (.t 46)), none⟩])
  (.seq (.reg [⟨some 48, .p (.loadL 5 6 true none), none⟩,
    ⟨some 49, .calli (.f 28) [.t 48], none⟩,
    ⟨some 47, .p (.mov (.t 49)), none⟩,
    ⟨some 50, .p (.extract (.t 47) 0), none⟩,
    ⟨some 51, .p (.extract (.t 47) 1), none⟩,
    ⟨some 12, .p (.mov (.t 50)), none⟩,
    ⟨some 13, .p (.mov (.t 51)), none⟩])
  (.seq (.seq (.reg [⟨some 52, .p (.mov (.t 9)), none⟩,
    ⟨some 53, .p (.bin .neq (.t 52) (.c (.int .i64 0))), none⟩])
  (.cond (.t 53) (.seq (.reg [⟨some 4, .p (.mov (.c (.bool false))), none⟩])
  .ret) .skip))
  (.seq (.seq (.reg [⟨some 54, .p (.mov (.t 8)), none⟩,
    ⟨some 55, .p (.un .not (.t 54)), none⟩])
  (.cond (.t 55) (.seq (.reg [⟨some 56, .p (.mov (.t 11)), none⟩,
    ⟨some 57, .p (.bin .eql (.t 56) (.c (.int .i64 32))), none⟩,
    ⟨some 58, .p (.mov (.t 57)), none⟩,
    ⟨some 59, .p (.mov (.t 13)), (some (58, true))⟩,
    ⟨some 60, .p (.mov (.t 11)), (some (58, true))⟩,
    ⟨some 61, .p (.bin .eql (.t 59) (.t 60)), (some (58, true))⟩,
    ⟨some 62, .p (.pick (.t 58) (.t 61) (.c (.bool false))), none⟩,
    ⟨some 63, .p (.mov (.t 62)), none⟩,
    ⟨some 64, .calli (.f 23) [], (some (63, true))⟩,
    ⟨some 65, .p (.pick (.t 63) (.t 64) (.c (.bool false))), none⟩,
    ⟨some 4, .p (.mov (.t 65)), none⟩])
  .ret) .skip))
  (.seq (.reg [⟨some 14, .p (.mov (.c (.int .i64 0))), none⟩,
    ⟨some 15, .p (.mov (.c (.int .i64 0))), none⟩])
  (.seq (.seq (.reg [⟨some 16, .p (.mov (.c (.int .i64 0))), none⟩])
  (.block 0 (.loop g10_macadamlaw03_StoneHonest_l0)))
  (.seq (.reg [⟨some 105, .p (.loadL 5 6 true none), none⟩,
    ⟨some 106, .calli (.f 24) [.t 105], none⟩,
    ⟨some 104, .p (.mov (.t 106)), none⟩,
    ⟨some 107, .p (.extract (.t 104) 0), none⟩,
    ⟨some 108, .p (.extract (.t 104) 1), none⟩,
    ⟨some 17, .p (.allocL 17 [.int .i64 0, .int .i64 0]), none⟩,
    ⟨none, .p (.storeL 17 2 none (.t 107)), none⟩,
    ⟨some 18, .p (.mov (.t 108)), none⟩])
  (.seq (.seq (.reg [⟨some 109, .p (.mov (.t 11)), none⟩,
    ⟨some 110, .p (.bin .neq (.t 109) (.c (.int .i64 0))), none⟩,
    ⟨some 111, .p (.mov (.t 110)), none⟩,
    ⟨some 112, .p (.mov (.t 13)), (some (111, false))⟩,
    ⟨some 113, .p (.bin .neq (.t 112) (.c (.int .i64 0))), (some (111, false))⟩,
    ⟨some 114, .p (.pick (.t 111) (.c (.bool true)) (.t 113)), none⟩,
    ⟨some 115, .p (.mov (.t 114)), none⟩,
    ⟨some 116, .p (.mov (.t 18)), (some (115, false))⟩,
    ⟨some 117, .p (.bin .neq (.t 116) (.c (.int .i64 0))), (some (115, false))⟩,
    ⟨some 118, .p (.pick (.t 115) (.c (.bool true)) (.t 117)), none⟩,
    ⟨some 119, .p (.mov (.t 118)), none⟩,
    ⟨some 120, .p (.loadL 10 2 true none), (some (119, false))⟩,
    ⟨some 121, .p (.mov (.t 7)), (some (119, false))⟩,
    ⟨some 122, .p (.mov (.t 14)), (some (119, false))⟩,
    ⟨some 123, .p (.bin .mul (.t 121) (.t 122)), (some (119, false))⟩,
    ⟨some 124, .calli (.f 41) [.t 123], (some (119, false))⟩,
    ⟨some 125, .p (.eqn (some 2) true (.t 120) (.t 124)), (some (119, false))⟩,
    ⟨some 126, .p (.pick (.t 119) (.c (.bool true)) (.t 125)), none⟩,
    ⟨some 127, .p (.mov (.t 126)), none⟩,
    ⟨some 128, .p (.loadL 17 2 true none), (some (127, false))⟩,
    ⟨some 129, .p (.mov (.t 15)), (some (127, false))⟩,
    ⟨some 130, .calli (.f 41) [.t 129], (some (127, false))⟩,
    ⟨some 131, .p (.eqn (some 2) true (.t 128) (.t 130)), (some (127, false))⟩,
    ⟨some 132, .p (.pick (.t 127) (.c (.bool true)) (.t 131)), none⟩,
    ⟨some 133, .p (.mov (.t 132)), none⟩,
    ⟨some 134, .p (.mov (.t 12)), (some (133, false))⟩,
    ⟨some 135, .p (.len (.t 134)), (some (133, false))⟩,
    ⟨some 136, .p (.bin .neq (.t 135) (.c (.int .i64 0))), (some (133, false))⟩,
    ⟨some 137, .p (.pick (.t 133) (.c (.bool true)) (.t 136)), none⟩])
  (.cond (.t 137) (.seq (.reg [⟨some 4, .p (.mov (.c (.bool false))), none⟩])
  .ret) .skip))
  (.seq (.seq (.reg [⟨some 138, .p (.lad 2 1), none⟩,
    ⟨some 139, .p (.loadL 2 1 false (some (.t 138))), none⟩,
    ⟨some 140, .p (.len (.t 139)), none⟩,
    ⟨some 141, .p (.bin .eql (.t 140) (.c (.int .i64 0))), none⟩])
  (.cond (.t 141) (.seq (.reg [⟨some 142, .calli (.f 23) [], none⟩,
    ⟨some 4, .p (.mov (.t 142)), none⟩])
  .ret) .skip))
  (.seq (.reg [⟨some 143, .p (.ladi 3 3 1 (.c (.int .i64 0))), none⟩,
    ⟨some 144, .p (.loadL 3 1 false (some (.t 143))), none⟩,
    ⟨some 145, .p (.lad 2 1), none⟩,
    ⟨some 146, .p (.loadL 2 1 false (some (.t 145))), none⟩,
    ⟨some 147, .p (.len (.t 146)), none⟩,
    ⟨some 148, .calli (.f 38) [.t 144, .t 147], none⟩,
    ⟨some 19, .p (.mov (.t 148)), none⟩])
  (.seq (.reg [⟨some 150, .p (.loadL 5 6 true none), none⟩,
    ⟨some 151, .p (.mov (.t 19)), none⟩,
    ⟨some 152, .calli (.f 19) [.t 150, .t 151], none⟩,
    ⟨some 149, .p (.mov (.t 152)), none⟩,
    ⟨some 153, .p (.extract (.t 149) 0), none⟩,
    ⟨some 154, .p (.extract (.t 149) 1), none⟩,
    ⟨some 20, .p (.allocL 20 [.int .i64 0, .int .i64 0]), none⟩,
    ⟨none, .p (.storeL 20 2 none (.t 153)), none⟩,
    ⟨some 21, .p (.mov (.t 154)), none⟩])
  (.seq (.reg [⟨some 155, .p (.mov (.t 21)), none⟩,
    ⟨some 156, .p (.bin .eql (.t 155) (.c (.int .i64 0))), none⟩,
    ⟨some 157, .p (.mov (.t 156)), none⟩,
    ⟨some 158, .p (.loadL 20 2 true none), (some (157, true))⟩,
    ⟨some 159, .p (.lad 2 1), (some (157, true))⟩,
    ⟨some 160, .p (.loadL 2 1 false (some (.t 159))), (some (157, true))⟩,
    ⟨some 161, .p (.mov (.t 19)), (some (157, true))⟩,
    ⟨some 162, .p (.iaddr none 4 (.t 160) (.t 161)), (some (157, true))⟩,
    ⟨some 163, .p (.faddr 3 (.t 162)), (some (157, true))⟩,
    ⟨some 164, .p (.loadC 1 false (.t 163)), (some (157, true))⟩,
    ⟨some 165, .calli (.f 41) [.t 164], (some (157, true))⟩,
    ⟨some 166, .p (.eqn (some 2) false (.t 158) (.t 165)), (some (157, true))⟩,
    ⟨some 167, .p (.pick (.t 157) (.t 166) (.c (.bool false))), none⟩,
    ⟨some 168, .p (.mov (.t 167)), none⟩,
    ⟨some 169, .calli (.f 23) [], (some (168, true))⟩,
    ⟨some 170, .p (.pick (.t 168) (.t 169) (.c (.bool false))), none⟩,
    ⟨some 4, .p (.mov (.t 170)), none⟩])
  .ret))))))))))))))))))
def g10_macadamlaw03_StoneHonest : AFn := ⟨g10_macadamlaw03_StoneHonest_c, [.t 4], 2⟩

/-- macadam/macadamlaw03.StoneLiar -/
def g11_macadamlaw03_StoneLiar_c : ACode := (.seq (.reg [⟨some 2, .p (.boxL 2 (.t 0)), none⟩,
    ⟨some 4, .p (.mov (.c (.bool false))), none⟩])
  (.seq (.seq (.reg [⟨some 11, .p (.loadL 2 6 true none), none⟩,
    ⟨some 12, .calli (.f 35) [.t 11], none⟩,
    ⟨some 13, .p (.un .not (.t 12)), none⟩])
  (.cond (.t 13) (.seq (.reg [⟨some 14, .calli (.f 23) [], none⟩,
    ⟨some 4, .p (.mov (.t 14)), none⟩])
  .ret) .skip))
  (.seq (.reg [⟨some 15, .p (.mov (.t 1)), none⟩,
    ⟨some 16, .calli (.f 38) [.t 15, .c (.int .i64 4)], none⟩,
    ⟨some 5, .p (.mov (.t 16)), none⟩])
  (.seq (.reg [⟨some 18, .p (.loadL 2 6 true none), none⟩,
    ⟨some 19, .calli (.f 28) [.t 18], none⟩,
    ⟨some 17, .p (.mov (.t 19)), none⟩,
    ⟨some 20, .p (.extract (.t 17) 0), none⟩,
    ⟨some 21, .p (.extract (.t 17) 1), none⟩,
    ⟨some 6, .p (.mov (.t 20)), none⟩,
    ⟨some 7, .p (.mov (.t 21)), none⟩])
  (.seq (.reg [⟨some 22, .p (.loadL 2 6 true none), none⟩,
    ⟨some 8, .p (.allocL 8 [.sl [] .exact, .sl [] .exact, .int .i64 0, .int .i64 0, .int .i64 0, .int .i64 0]), none⟩,
    ⟨none, .p (.storeL 8 6 none (.t 22)), none⟩])
  (.seq (.reg [⟨some 23, .p (.mov (.t 5)), none⟩,
    ⟨some 24, .p (.lad 8 2), none⟩,
    ⟨some 25, .p (.iaddr (some 4) 1 (.t 24) (.t 23)), none⟩,
    ⟨none, .p (.storeL 8 1 (some (.t 25)) (.c (.int .i64 0))), none⟩])
  (.seq (.reg [⟨some 27, .p (.loadL 8 6 true none), none⟩,
    ⟨some 28, .calli (.f 15) [.t 27], none⟩,
    ⟨some 26, .p (.mov (.t 28)), none⟩,
    ⟨some 29, .p (.extract (.t 26) 0), none⟩,
    ⟨some 30, .p (.extract (.t 26) 1), none⟩,
    ⟨some 9, .p (.mov (.t 29)), none⟩,
    ⟨some 10, .p (.mov (.t 30)), none⟩])
  (.seq (.seq (.reg [⟨some 31, .p (.mov (.t 7)), none⟩,
    ⟨some 32, .p (.bin .neq (.t 31) (.c (.int .i64 0))), none⟩])
  (.cond (.t 32) (.seq (.reg [⟨some 33, .p (.mov (.t 7)), none⟩,
    ⟨some 34, .p (.bin .eql (.t 33) (.c (.int .i64 32))), none⟩,
    ⟨some 35, .p (.mov (.t 34)), none⟩,
    ⟨some 36, .p (.mov (.t 10)), (some (35, true))⟩,
    ⟨some 37, .p (.bin .eql (.t 36) (.c (.int .i64 0))), (some (35, true))⟩,
    ⟨some 38, .p (.pick (.t 35) (.t 37) (.c (.bool false))), none⟩,
    ⟨some 39, .p (.mov (.t 38)), none⟩,
    ⟨some 40, .p (.mov (.t 9)), (some (39, true))⟩,
    ⟨some 41, .p (.un .not (.t 40)), (some (39, true))⟩,
    ⟨some 42, .p (.pick (.t 39) (.t 41) (.c (.bool false))), none⟩,
    ⟨some 43, .p (.mov (.t 42)), none⟩,
    ⟨some 44, .p (.mov (.t 6)), (some (43, true))⟩,
    ⟨some 45, .p (.len (.t 44)), (some (43, true))⟩,
    ⟨some 46, .p (.bin .eql (.t 45) (.c (.int .i64 0))), (some (43, true))⟩,
    ⟨some 47, .p (.pick (.t 43) (.t 46) (.c (.bool false))), none⟩,
    ⟨some 48, .p (.mov (.t 47)), none⟩,
    ⟨some 49, .calli (.f 23) [], (some (48, true))⟩,
    ⟨some 50, .p (.pick (.t 48) (.t 49) (.c (.bool false))), none⟩,
    ⟨some 4, .p (.mov (.t 50)), none⟩])
  .ret) .skip))
  (.seq (.reg [⟨some 51, .p (.mov (.t 10)), none⟩,
    ⟨some 52, .p (.bin .eql (.t 51) (.c (.int .i64 0))), none⟩,
    ⟨some 53, .p (.mov (.t 52)), none⟩,
    ⟨some 54, .p (.mov (.t 6)), (some (53, true))⟩,
    ⟨some 55, .calli (.f 40) [.t 54, .c (.int .i64 4)], (some (53, true))⟩,
    ⟨some 56, .p (.pick (.t 53) (.t 55) (.c (.bool false))), none⟩,
    ⟨some 57, .p (.mov (.t 56)), none⟩,
    ⟨some 58, .p (.mov (.t 6)), (some (57, true))⟩,
    ⟨some 59, .p (.mov (.t 5)), (some (57, true))⟩,
    ⟨some 60, .calli (.f 47) [.t 58, .t 59], (some (57, true))⟩,
    ⟨some 61, .p (.bin .geq (.t 60) (.c (.int .i64 0))), (some (57, true))⟩,
    ⟨some 62, .p (.mov (.t 9)), (some (57, true))⟩,
    ⟨some 63, .p (.un .not (.t 62)), (some (57, true))⟩,
    ⟨some 64, .p (.eqn none false (.t 61) (.t 63)), (some (57, true))⟩,
    ⟨some 65, .p (.pick (.t 57) (.t 64) (.c (.bool false))), none⟩,
    ⟨some 66, .p (.mov (.t 65)), none⟩,
    ⟨some 67, .calli (.f 23) [], (some (66, true))⟩,
    ⟨some 68, .p (.pick (.t 66) (.t 67) (.c (.bool false))), none⟩,
    ⟨some 4, .p (.mov (.t 68)), none⟩])
  .ret)))))))))
def g11_macadamlaw03_StoneLiar : AFn := ⟨g11_macadamlaw03_StoneLiar_c, [.t 4], 2⟩

/-- macadam/macadamlaw03.StoneOwed -/
def g12_macadamlaw03_StoneOwed_l0 : ACode := (.seq (.seq (.reg [⟨some 61, .p (.mov (.t 13)), none⟩,
    ⟨some 62, .p (.lad 2 1), none⟩,
    ⟨some 63, .p (.loadL 2 1 false (some (.t 62))), none⟩,
    ⟨some 64, .p (.len (.t 63)), none⟩,
    ⟨some 65, .p (.bin .lss (.t 61) (.t 64)), none⟩])
  (.cond (.t 65) .skip (.exit 0)))
  (.seq (.block 1 (.seq (.seq (.reg [⟨some 68, .p (.lad 2 1), none⟩,
    ⟨some 69, .p (.loadL 2 1 false (some (.t 68))), none⟩,
    ⟨some 70, .p (.mov (.t 13)), none⟩,
    ⟨some 71, .p (.iaddr none 4 (.t 69) (.t 70)), none⟩,
    ⟨some 72, .p (.faddr 2 (.t 71)), none⟩,
    ⟨some 73, .p (.loadC 1 false (.t 72)), none⟩,
    ⟨some 74, .p (.mov (.t 5)), none⟩,
    ⟨some 75, .p (.bin .neq (.t 73) (.t 74)), none⟩])
  (.cond (.t 75) (.exit 1) .skip))
  (.seq (.reg [⟨some 77, .p (.loadL 2 6 true none), none⟩,
    ⟨some 78, .p (.mov (.t 13)), none⟩,
    ⟨some 79, .calli (.f 19) [.t 77, .t 78], none⟩,
    ⟨some 76, .p (.mov (.t 79)), none⟩,
    ⟨some 80, .p (.extract (.t 76) 0), none⟩,
    ⟨some 81, .p (.extract (.t 76) 1), none⟩,
    ⟨some 14, .p (.allocL 14 [.int .i64 0, .int .i64 0]), none⟩,
    ⟨none, .p (.storeL 14 2 none (.t 80)), none⟩,
    ⟨some 15, .p (.mov (.t 81)), none⟩])
  (.seq (.seq (.reg [⟨some 82, .p (.mov (.t 15)), none⟩,
    ⟨some 83, .p (.bin .neq (.t 82) (.c (.int .i64 0))), none⟩])
  (.cond (.t 83) (.seq (.reg [⟨some 4, .p (.mov (.c (.bool false))), none⟩])
  .ret) .skip))
  (.reg [⟨some 84, .p (.mov (.t 11)), none⟩,
    ⟨some 85, .p (.lad 14 0), none⟩,
    ⟨some 86, .p (.loadL 14 1 false (some (.t 85))), none⟩,
    ⟨some 87, .p (.bin .add (.t 84) (.t 86)), none⟩,
    ⟨some 88, .p (.mov (.t 12)), none⟩,
    ⟨some 89, .p (.lad 14 1), none⟩,
    ⟨some 90, .p (.loadL 14 1 false (some (.t 89))), none⟩,
    ⟨some 91, .p (.bin .add (.t 88) (.t 90)), none⟩,
    ⟨some 11, .p (.mov (.t 87)), none⟩,
    ⟨some 12, .p (.mov (.t 91)), none⟩])))))
  (.reg [⟨some 66, .p (.mov (.t 13)), none⟩,
    ⟨some 67, .p (.bin .add (.t 66) (.c (.int .i64 1))), none⟩,
    ⟨some 13, .p (.mov (.t 67)), none⟩])))
def g12_macadamlaw03_StoneOwed_c : ACode := (.seq (.reg [⟨some 2, .p (.boxL 2 (.t 0)), none⟩,
    ⟨some 3, .p (.boxL 3 (.t 1)), none⟩,
    ⟨some 4, .p (.mov (.c (.bool false))), none⟩])
  (.seq (.seq (.reg [⟨some 16, .p (.loadL 2 6 true none), none⟩,
    ⟨some 17, .calli (.f 35) [.t 16], none⟩,
    ⟨some 18, .p (.un .not (.t 17)), none⟩])
  (.cond (.t 18) (.seq (.reg [⟨some 19, .calli (.f 23) [], none⟩,
    ⟨some 4, .p (.mov (.t 19)), none⟩])
  .ret) .skip))
  (.seq (.reg [⟨some 20, .p (.ladi 3 2 1 (.c (.int .i64 0))), none⟩,
    ⟨some 21, .p (.loadL 3 1 false (some (.t 20))), none⟩,
    ⟨some 22, .calli (.f 38) [.t 21, .c (.int .i64 4)], none⟩,
    ⟨some 23, .p (.ladi 3 2 1 (.c (.int .i64 1))), none⟩,
    ⟨some 24, .p (.loadL 3 1 false (some (.t 23))), none⟩,
    ⟨some 25, .calli (.f 38) [.t 24, .c (.int .i64 100)], none⟩,
    ⟨some 5, .p (.mov (.t 22)), none⟩,
    ⟨some 6, .p (.mov (.t 25)), none⟩])
  (.seq (.reg [⟨some 27, .p (.loadL 2 6 true none), none⟩,
    ⟨some 28, .p (.mov (.t 5)), none⟩,
    ⟨some 29, .calli (.f 26) [.t 27, .t 28, .c (.int .i64 1)], none⟩,
    ⟨some 26, .p (.mov (.t 29)), none⟩,
    ⟨some 30, .p (.extract (.t 26) 0), none⟩,
    ⟨some 31, .p (.extract (.t 26) 1), none⟩,
    ⟨some 7, .p (.allocL 7 [.int .i64 0, .int .i64 0]), none⟩,
    ⟨none, .p (.storeL 7 2 none (.t 30)), none⟩,
    ⟨some 8, .p (.mov (.t 31)), none⟩])
  (.seq (.reg [⟨some 33, .p (.loadL 2 6 true none), none⟩,
    ⟨some 34, .p (.mov (.t 5)), none⟩,
    ⟨some 35, .p (.mov (.t 6)), none⟩,
    ⟨some 36, .calli (.f 26) [.t 33, .t 34, .t 35], none⟩,
    ⟨some 32, .p (.mov (.t 36)), none⟩,
    ⟨some 37, .p (.extract (.t 32) 0), none⟩,
    ⟨some 38, .p (.extract (.t 32) 1), none⟩,
    ⟨some 9, .p (.allocL 9 [.int .i64 0, .int .i64 0]), none⟩,
    ⟨none, .p (.storeL 9 2 none (.t 37)), none⟩,
    ⟨some 10, .p (.mov (.t 38)), none⟩])
  (.seq (.seq (.reg [⟨some 39, .p (.mov (.t 8)), none⟩,
    ⟨some 40, .p (.bin .neq (.t 39) (.c (.int .i64 0))), none⟩])
  (.cond (.t 40) (.seq (.reg [⟨some 41, .p (.mov (.t 8)), none⟩,
    ⟨some 42, .p (.bin .eql (.t 41) (.c (.int .i64 32))), none⟩,
    ⟨some 43, .p (.mov (.t 42)), none⟩,
    ⟨some 44, .p (.mov (.t 10)), (some (43, true))⟩,
    ⟨some 45, .p (.mov (.t 8)), (some (43, true))⟩,
    ⟨some 46, .p (.bin .eql (.t 44) (.t 45)), (some (43, true))⟩,
    ⟨some 47, .p (.pick (.t 43) (.t 46) (.c (.bool false))), none⟩,
    ⟨some 48, .p (.mov (.t 47)), none⟩,
    ⟨some 49, .p (.loadL 7 2 true none), (some (48, true))⟩,
    ⟨some 50, .calli (.f 41) [.c (.int .i64 0)], (some (48, true))⟩,
    ⟨some 51, .p (.eqn (some 2) false (.t 49) (.t 50)), (some (48, true))⟩,
    ⟨some 52, .p (.pick (.t 48) (.t 51) (.c (.bool false))), none⟩,
    ⟨some 53, .p (.mov (.t 52)), none⟩,
    ⟨some 54, .p (.loadL 9 2 true none), (some (53, true))⟩,
    ⟨some 55, .p (.loadL 7 2 true none), (some (53, true))⟩,
    ⟨some 56, .p (.eqn (some 2) false (.t 54) (.t 55)), (some (53, true))⟩,
    ⟨some 57, .p (.pick (.t 53) (.t 56) (.c (.bool false))), none⟩,
    ⟨some 58, .p (.mov (.t 57)), none⟩,
    ⟨some 59, .calli (.f 23) [], (some (58, true))⟩,
    ⟨some 60, .p (.pick (.t 58) (.t 59) (.c (.bool false))), none⟩,
    ⟨some 4, .p (.mov (.t 60)), none⟩])
  .ret) .skip))
  (.seq (.reg [⟨some 11, .p (.mov (.c (.int .i64 0))), none⟩,
    ⟨some 12, .p (.mov (.c (.int .i64 0))), none⟩])
  (.seq (.seq (.reg [⟨some 13, .p (.mov (.c (.int .i64 0))), none⟩])
  (.block 0 (.loop g12_macadamlaw03_StoneOwed_l0)))
  (.seq (.reg [⟨some 92, .p (.mov (.t 10)), none⟩,
    ⟨some 93, .p (.bin .eql (.t 92) (.c (.int .i64 0))), none⟩,
    ⟨some 94, .p (.mov (.t 93)), none⟩,
    ⟨some 95, .p (.loadL 9 2 true none), (some (94, true))⟩,
    ⟨some 96, .p (.mov (.t 6)), (some (94, true))⟩,
    ⟨some 97, .p (.lad 7 0), (some (94, true))⟩,
    ⟨some 98, .p (.loadL 7 1 false (some (.t 97))), (some (94, true))⟩,
    ⟨some 99, .p (.bin .mul (.t 96) (.t 98)), (some (94, true))⟩,
    ⟨some 100, .p (.mov (.t 6)), (some (94, true))⟩,
    ⟨some 101, .p (.lad 7 1), (some (94, true))⟩,
    ⟨some 102, .p (.loadL 7 1 false (some (.t 101))), (some (94, true))⟩,
    ⟨some 103, .p (.bin .mul (.t 100) (.t 102)), (some (94, true))⟩,
    ⟨some 104, .calli (.f 44) [.t 99, .t 103], (some (94, true))⟩,
    ⟨some 105, .p (.eqn (some 2) false (.t 95) (.t 104)), (some (94, true))⟩,
    ⟨some 106, .p (.pick (.t 94) (.t 105) (.c (.bool false))), none⟩,
    ⟨some 107, .p (.mov (.t 106)), none⟩,
    ⟨some 108, .p (.mov (.t 11)), (some (107, true))⟩,
    ⟨some 109, .p (.mov (.t 12)), (some (107, true))⟩,
    ⟨some 110, .calli (.f 44) [.t 108, .t 109], (some (107, true))⟩,
    ⟨some 111, .p (.loadL 7 2 true none), (some (107, true))⟩,
    ⟨some 112, .calli (.f 43) [.t 110, .t 111], (some (107, true))⟩,
    ⟨some 113, .p (.pick (.t 107) (.t 112) (.c (.bool false))), none⟩,
    ⟨some 114, .p (.mov (.t 113)), none⟩,
    ⟨some 115, .p (.lad 7 0), (some (114, true))⟩,
    ⟨some 116, .p (.loadL 7 1 false (some (.t 115))), (some (114, true))⟩,
    ⟨some 117, .p (.lad 7 1), (some (114, true))⟩,
    ⟨some 118, .p (.loadL 7 1 false (some (.t 117))), (some (114, true))⟩,
    ⟨some 119, .p (.bin .leq (.t 116) (.t 118)), (some (114, true))⟩,
    ⟨some 120, .p (.pick (.t 114) (.t 119) (.c (.bool false))), none⟩,
    ⟨some 121, .p (.mov (.t 120)), none⟩,
    ⟨some 122, .calli (.f 23) [], (some (121, true))⟩,
    ⟨some 123, .p (.pick (.t 121) (.t 122) (.c (.bool false))), none⟩,
    ⟨some 4, .p (.mov (.t 123)), none⟩])
  .ret)))))))))
def g12_macadamlaw03_StoneOwed : AFn := ⟨g12_macadamlaw03_StoneOwed_c, [.t 4], 2⟩

/-- macadam/macadamlaw03.StoneWrong -/
def g13_macadamlaw03_StoneWrong_c : ACode := (.seq (.reg [⟨some 3, .p (.boxL 3 (.t 0)), none⟩,
    ⟨some 6, .p (.mov (.c (.bool false))), none⟩])
  (.seq (.reg [⟨some 15, .p (.loadL 3 6 true none), none⟩,
    ⟨some 16, .calli (.f 33) [.t 15], none⟩,
    ⟨some 14, .p (.mov (.t 16)), none⟩,
    ⟨some 17, .p (.extract (.t 14) 0), none⟩,
    ⟨some 18, .p (.extract (.t 14) 1), none⟩,
    ⟨some 7, .p (.mov (.t 17)), none⟩,
    ⟨some 8, .p (.mov (.t 18)), none⟩])
  (.seq (.seq (.reg [⟨some 19, .p (.loadL 3 6 true none), none⟩,
    ⟨some 20, .calli (.f 35) [.t 19], none⟩,
    ⟨some 21, .p (.un .not (.t 20)), none⟩])
  (.cond (.t 21) (.seq (.reg [⟨some 22, .p (.mov (.t 8)), none⟩,
    ⟨some 23, .p (.bin .eql (.t 22) (.c (.int .i64 30))), none⟩,
    ⟨some 24, .p (.mov (.t 23)), none⟩,
    ⟨some 25, .p (.mov (.t 7)), (some (24, true))⟩,
    ⟨some 26, .p (.len (.t 25)), (some (24, true))⟩,
    ⟨some 27, .p (.bin .eql (.t 26) (.c (.int .i64 0))), (some (24, true))⟩,
    ⟨some 28, .p (.pick (.t 24) (.t 27) (.c (.bool false))), none⟩,
    ⟨some 29, .p (.mov (.t 28)), none⟩,
    ⟨some 30, .calli (.f 23) [], (some (29, true))⟩,
    ⟨some 31, .p (.pick (.t 29) (.t 30) (.c (.bool false))), none⟩,
    ⟨some 6, .p (.mov (.t 31)), none⟩])
  .ret) .skip))
  (.seq (.reg [⟨some 33, .p (.loadL 3 6 true none), none⟩,
    ⟨some 34, .calli (.f 15) [.t 33], none⟩,
    ⟨some 32, .p (.mov (.t 34)), none⟩,
    ⟨some 35, .p (.extract (.t 32) 0), none⟩,
    ⟨some 36, .p (.extract (.t 32) 1), none⟩,
    ⟨some 9, .p (.mov (.t 35)), none⟩,
    ⟨some 10, .p (.mov (.t 36)), none⟩])
  (.seq (.seq (.reg [⟨some 37, .p (.mov (.t 10)), none⟩,
    ⟨some 38, .p (.bin .neq (.t 37) (.c (.int .i64 0))), none⟩])
  (.cond (.t 38) (.seq (.reg [⟨some 6, .p (.mov (.c (.bool false))), none⟩])
  .ret) .skip))
  (.seq (.reg [⟨some 39, .p (.mov (.t 2)), none⟩,
    ⟨some 40, .p (.lad 3 1), none⟩,
    ⟨some 41, .p (.loadL 3 1 false (some (.t 40))), none⟩,
    ⟨some 42, .p (.len (.t 41)), none⟩,
    ⟨some 43, .p (.bin .shl (.c (.int .i64 1)) (.t 42)), none⟩,
    ⟨some 44, .calli (.f 38) [.t 39, .t 43], none⟩,
    ⟨some 45, .p (.lad 3 1), none⟩,
    ⟨some 46, .p (.loadL 3 1 false (some (.t 45))), none⟩,
    ⟨some 47, .p (.len (.t 46)), none⟩,
    ⟨some 48, .calli (.f 48) [.t 44, .t 47], none⟩,
    ⟨some 11, .p (.mov (.t 48)), none⟩])
  (.seq (.reg [⟨some 50, .p (.loadL 3 6 true none), none⟩,
    ⟨some 51, .p (.mov (.t 11)), none⟩,
    ⟨some 52, .p (.mov (.t 1)), none⟩,
    ⟨some 53, .calli (.f 49) [.t 50, .t 51, .t 52], none⟩,
    ⟨some 54, .calli (.f 15) [.t 53], none⟩,
    ⟨some 49, .p (.mov (.t 54)), none⟩,
    ⟨some 55, .p (.extract (.t 49) 0), none⟩,
    ⟨some 56, .p (.extract (.t 49) 1), none⟩,
    ⟨some 12, .p (.mov (.t 55)), none⟩,
    ⟨some 13, .p (.mov (.t 56)), none⟩])
  (.seq (.seq (.reg [⟨some 57, .p (.mov (.t 13)), none⟩,
    ⟨some 58, .p (.bin .neq (.t 57) (.c (.int .i64 0))), none⟩])
  (.cond (.t 58) (.seq (.reg [⟨some 6, .p (.mov (.c (.bool false))), none⟩])
  .ret) .skip))
  (.seq (.seq (.reg [⟨some 59, .p (.mov (.t 8)), none⟩,
    ⟨some 60, .p (.bin .neq (.t 59) (.c (.int .i64 0))), none⟩])
  (.cond (.t 60) (.seq (.reg [⟨some 61, .p (.mov (.t 8)), none⟩,
    ⟨some 62, .p (.bin .eql (.t 61) (.c (.int .i64 32))), none⟩,
    ⟨some 63, .p (.mov (.t 62)), none⟩,
    ⟨some 64, .p (.mov (.t 7)), (some (63, true))⟩,
    ⟨some 65, .p (.len (.t 64)), (some (63, true))⟩,
    ⟨some 66, .p (.bin .eql (.t 65) (.c (.int .i64 0))), (some (63, true))⟩,
    ⟨some 67, .p (.pick (.t 63) (.t 66) (.c (.bool false))), none⟩,
    ⟨some 68, .p (.mov (.t 67)), none⟩,
    ⟨some 69, .p (.mov (.t 9)), (some (68, true))⟩,
    ⟨some 70, .p (.un .not (.t 69)), (some (68, true))⟩,
    ⟨some 71, .p (.pick (.t 68) (.t 70) (.c (.bool false))), none⟩,
    ⟨some 72, .p (.mov (.t 71)), none⟩,
    ⟨some 73, .p (.mov (.t 12)), (some (72, true))⟩,
    ⟨some 74, .p (.un .not (.t 73)), (some (72, true))⟩,
    ⟨some 75, .p (.pick (.t 72) (.t 74) (.c (.bool false))), none⟩,
    ⟨some 76, .p (.mov (.t 75)), none⟩,
    ⟨some 77, .calli (.f 23) [], (some (76, true))⟩,
    ⟨some 78, .p (.pick (.t 76) (.t 77) (.c (.bool false))), none⟩,
    ⟨some 6, .p (.mov (.t 78)), none⟩])
  .ret) .skip))
  (.seq (.seq (.reg [⟨some 79, .p (.mov (.t 7)), none⟩,
    ⟨some 80, .p (.lad 3 1), none⟩,
    ⟨some 81, .p (.loadL 3 1 false (some (.t 80))), none⟩,
    ⟨some 82, .p (.len (.t 81)), none⟩,
    ⟨some 83, .calli (.f 40) [.t 79, .t 82], none⟩,
    ⟨some 84, .p (.un .not (.t 83)), none⟩,
    ⟨some 85, .p (.mov (.t 84)), none⟩,
    ⟨some 86, .p (.mov (.t 7)), (some (85, false))⟩,
    ⟨some 87, .p (.len (.t 86)), (some (85, false))⟩,
    ⟨some 88, .p (.bin .eql (.t 87) (.c (.int .i64 0))), (some (85, false))⟩,
    ⟨some 89, .p (.mov (.t 9)), (some (85, false))⟩,
    ⟨some 90, .p (.eqn none true (.t 88) (.t 89)), (some (85, false))⟩,
    ⟨some 91, .p (.pick (.t 85) (.c (.bool true)) (.t 90)), none⟩,
    ⟨some 92, .p (.mov (.t 91)), none⟩,
    ⟨some 93, .p (.mov (.t 12)), (some (92, false))⟩,
    ⟨some 94, .p (.mov (.t 93)), (some (92, false))⟩,
    ⟨some 95, .p (.mov (.t 11)), (some (94, true))⟩,
    ⟨some 96, .p (.mov (.t 7)), (some (94, true))⟩,
    ⟨some 97, .calli (.f 50) [.t 95, .t 96], (some (94, true))⟩,
    ⟨some 98, .p (.pick (.t 94) (.t 97) (.c (.bool false))), (some (92, false))⟩,
    ⟨some 99, .p (.pick (.t 92) (.c (.bool true)) (.t 98)), none⟩])
  (.cond (.t 99) (.seq (.reg [⟨some 6, .p (.mov (.c (.bool false))), none⟩])
  .ret) .skip))
  (.seq (.reg [⟨some 100, .p (.mov (.t 7)), none⟩,
    ⟨some 101, .p (.len (.t 100)), none⟩,
    ⟨some 102, .p (.bin .gtr (.t 101) (.c (.int .i64 3))), none⟩,
    ⟨some 103, .p (.mov (.t 102)), none⟩,
    ⟨some 104, .p (.loadL 3 6 true none), (some (103, false))⟩,
    ⟨some 105, .p (.mov (.t 7)), (some (103, false))⟩,
    ⟨some 106, .calli (.f 51) [.t 104, .t 105], (some (103, false))⟩,
    ⟨some 107, .p (.pick (.t 103) (.c (.bool true)) (.t 106)), none⟩,
    ⟨some 108, .p (.mov (.t 107)), none⟩,
    ⟨some 109, .calli (.f 23) [], (some (108, true))⟩,
    ⟨some 110, .p (.pick (.t 108) (.t 109) (.c (.bool false))), none⟩,
    ⟨some 6, .p (.mov (.t 110)), none⟩])
  .ret)))))))))))
def g13_macadamlaw03_StoneWrong : AFn := ⟨g13_macadamlaw03_StoneWrong_c, [.t 6], 3⟩

/-- macadam/stone.Right -/
def g15_stone_Right_c : ACode := (.seq (.reg [⟨some 1, .p (.boxL 1 (.t 0)), none⟩,
    ⟨some 2, .p (.mov (.c (.bool false))), none⟩,
    ⟨some 3, .p (.mov (.c (.int .i64 0))), none⟩])
  (.seq (.seq (.reg [⟨some 5, .p (.loadL 1 6 true none), none⟩,
    ⟨some 6, .calli (.f 17) [.t 5], none⟩,
    ⟨some 4, .p (.mov (.t 6)), none⟩])
  (.seq (.reg [⟨some 7, .p (.mov (.t 4)), none⟩,
    ⟨some 8, .p (.bin .neq (.t 7) (.c (.int .i64 0))), none⟩])
  (.cond (.t 8) (.seq (.reg [⟨some 9, .p (.mov (.t 4)), none⟩,
    ⟨some 2, .p (.mov (.c (.bool false))), none⟩,
    ⟨some 3, .p (.mov (.t 9)), none⟩])
  .ret) .skip)))
  (.seq (.reg [⟨some 10, .p (.loadL 1 6 true none), none⟩,
    ⟨some 11, .calli (.f 56) [.c (.sl [] .exact)], none⟩,
    ⟨some 12, .calli (.f 55) [.t 10, .t 11], none⟩,
    ⟨some 13, .calli (.f 57) [.t 12], none⟩,
    ⟨some 2, .p (.mov (.t 13)), none⟩,
    ⟨some 3, .p (.mov (.c (.int .i64 0))), none⟩])
  .ret)))
def g15_stone_Right : AFn := ⟨g15_stone_Right_c, [.t 2, .t 3], 1⟩

/-- macadam/macadamref03.Right -/
def g16_macadamref03_Right_c : ACode := (.seq (.reg [⟨some 1, .p (.boxL 1 (.t 0)), none⟩,
    ⟨some 2, .p (.mov (.c (.bool false))), none⟩,
    ⟨some 3, .p (.mov (.c (.int .i64 0))), none⟩])
  (.seq (.seq (.reg [⟨some 5, .p (.loadL 1 6 true none), none⟩,
    ⟨some 6, .calli (.f 18) [.t 5], none⟩,
    ⟨some 4, .p (.mov (.t 6)), none⟩])
  (.seq (.reg [⟨some 7, .p (.mov (.t 4)), none⟩,
    ⟨some 8, .p (.bin .neq (.t 7) (.c (.int .i64 0))), none⟩])
  (.cond (.t 8) (.seq (.reg [⟨some 9, .p (.mov (.t 4)), none⟩,
    ⟨some 2, .p (.mov (.c (.bool false))), none⟩,
    ⟨some 3, .p (.mov (.t 9)), none⟩])
  .ret) .skip)))
  (.seq (.reg [⟨some 10, .p (.loadL 1 6 true none), none⟩,
    ⟨some 11, .calli (.f 58) [.t 10, .c (.int .i64 0), .c (.sl [] .exact)], none⟩,
    ⟨some 12, .p (.len (.t 11)), none⟩,
    ⟨some 13, .p (.bin .gtr (.t 12) (.c (.int .i64 0))), none⟩,
    ⟨some 2, .p (.mov (.t 13)), none⟩,
    ⟨some 3, .p (.mov (.c (.int .i64 0))), none⟩])
  .ret)))
def g16_macadamref03_Right : AFn := ⟨g16_macadamref03_Right_c, [.t 2, .t 3], 1⟩

/-- macadam/stone.Check -/
def g17_stone_Check_l0 : ACode := (.seq (.reg [⟨some 24, .p (.bin .lss (.t 23) (.t 22)), none⟩])
  (.seq (.cond (.t 24) .skip (.exit 0))
  (.seq (.block 1 (.seq (.reg [⟨some 25, .p (.iaddr none 4 (.t 21) (.t 23)), none⟩,
    ⟨some 26, .p (.loadC 4 true (.t 25)), none⟩,
    ⟨some 5, .p (.allocL 5 [.int .i64 0, .int .i64 0, .int .i64 0, .int .i64 0]), none⟩,
    ⟨none, .p (.storeL 5 4 none (.t 26)), none⟩])
  (.reg [⟨some 27, .p (.mov (.t 3)), none⟩,
    ⟨some 28, .p (.mov (.t 27)), none⟩,
    ⟨some 29, .p (.lad 5 0), (some (28, true))⟩,
    ⟨some 30, .p (.loadL 5 2 true (some (.t 29))), (some (28, true))⟩,
    ⟨some 31, .calli (.f 60) [.t 30, .c (.int .i64 60)], (some (28, true))⟩,
    ⟨some 32, .p (.pick (.t 28) (.t 31) (.c (.bool false))), none⟩,
    ⟨some 33, .p (.mov (.t 32)), none⟩,
    ⟨some 34, .p (.lad 5 0), (some (33, true))⟩,
    ⟨some 35, .p (.faddr 1 (.t 34)), (some (33, true))⟩,
    ⟨some 36, .p (.loadL 5 1 false (some (.t 35))), (some (33, true))⟩,
    ⟨some 37, .p (.lad 5 0), (some (33, true))⟩,
    ⟨some 38, .p (.faddr 0 (.t 37)), (some (33, true))⟩,
    ⟨some 39, .p (.loadL 5 1 false (some (.t 38))), (some (33, true))⟩,
    ⟨some 40, .p (.bin .sub (.t 36) (.t 39)), (some (33, true))⟩,
    ⟨some 41, .p (.bin .leq (.t 40) (.c (.int .i64 4))), (some (33, true))⟩,
    ⟨some 42, .p (.pick (.t 33) (.t 41) (.c (.bool false))), none⟩,
    ⟨some 43, .p (.mov (.t 42)), none⟩,
    ⟨some 44, .p (.lad 5 2), (some (43, true))⟩,
    ⟨some 45, .p (.loadL 5 2 true (some (.t 44))), (some (43, true))⟩,
    ⟨some 46, .calli (.f 60) [.t 45, .c (.int .i64 99)], (some (43, true))⟩,
    ⟨some 47, .p (.pick (.t 43) (.t 46) (.c (.bool false))), none⟩,
    ⟨some 3, .p (.mov (.t 47)), none⟩])))
  (.reg [⟨some 48, .p (.bin .add (.t 23) (.c (.int .i64 1))), none⟩,
    ⟨some 23, .p (.mov (.t 48)), none⟩]))))
def g17_stone_Check_l1 : ACode := (.seq (.reg [⟨some 53, .p (.bin .lss (.t 52) (.t 51)), none⟩])
  (.seq (.cond (.t 53) .skip (.exit 2))
  (.seq (.block 3 (.seq (.reg [⟨some 54, .p (.iaddr none 4 (.t 50) (.t 52)), none⟩,
    ⟨some 55, .p (.loadC 4 true (.t 54)), none⟩,
    ⟨some 7, .p (.allocL 7 [.int .i64 0, .int .i64 0, .int .i64 0, .int .i64 0]), none⟩,
    ⟨none, .p (.storeL 7 4 none (.t 55)), none⟩])
  (.reg [⟨some 56, .p (.mov (.t 3)), none⟩,
    ⟨some 57, .p (.mov (.t 56)), none⟩,
    ⟨some 58, .p (.loadL 1 6 true none), (some (57, true))⟩,
    ⟨some 59, .p (.lad 7 0), (some (57, true))⟩,
    ⟨some 60, .p (.loadL 7 1 false (some (.t 59))), (some (57, true))⟩,
    ⟨some 61, .calli (.f 61) [.t 58, .t 60], (some (57, true))⟩,
    ⟨some 62, .p (.pick (.t 57) (.t 61) (.c (.bool false))), none⟩,
    ⟨some 63, .p (.mov (.t 62)), none⟩,
    ⟨some 64, .p (.loadL 1 6 true none), (some (63, true))⟩,
    ⟨some 65, .p (.lad 7 1), (some (63, true))⟩,
    ⟨some 66, .p (.loadL 7 1 false (some (.t 65))), (some (63, true))⟩,
    ⟨some 67, .calli (.f 61) [.t 64, .t 66], (some (63, true))⟩,
    ⟨some 68, .p (.pick (.t 63) (.t 67) (.c (.bool false))), none⟩,
    ⟨some 69, .p (.mov (.t 68)), none⟩,
    ⟨some 70, .p (.lad 7 0), (some (69, true))⟩,
    ⟨some 71, .p (.loadL 7 1 false (some (.t 70))), (some (69, true))⟩,
    ⟨some 72, .p (.lad 7 1), (some (69, true))⟩,
    ⟨some 73, .p (.loadL 7 1 false (some (.t 72))), (some (69, true))⟩,
    ⟨some 74, .p (.bin .neq (.t 71) (.t 73)), (some (69, true))⟩,
    ⟨some 75, .p (.pick (.t 69) (.t 74) (.c (.bool false))), none⟩,
    ⟨some 76, .p (.mov (.t 75)), none⟩,
    ⟨some 77, .p (.lad 7 2), (some (76, true))⟩,
    ⟨some 78, .p (.loadL 7 1 false (some (.t 77))), (some (76, true))⟩,
    ⟨some 79, .calli (.f 62) [.t 78], (some (76, true))⟩,
    ⟨some 80, .p (.pick (.t 76) (.t 79) (.c (.bool false))), none⟩,
    ⟨some 81, .p (.mov (.t 80)), none⟩,
    ⟨some 82, .p (.lad 7 3), (some (81, true))⟩,
    ⟨some 83, .p (.loadL 7 1 false (some (.t 82))), (some (81, true))⟩,
    ⟨some 84, .calli (.f 59) [.t 83, .c (.int .i64 0), .c (.int .i64 6)], (some (81, true))⟩,
    ⟨some 85, .p (.pick (.t 81) (.t 84) (.c (.bool false))), none⟩,
    ⟨some 3, .p (.mov (.t 85)), none⟩])))
  (.reg [⟨some 86, .p (.bin .add (.t 52) (.c (.int .i64 1))), none⟩,
    ⟨some 52, .p (.mov (.t 86)), none⟩]))))
def g17_stone_Check_l2 : ACode := (.seq (.reg [⟨some 90, .p (.bin .lss (.t 89) (.c (.int .i64 4))), none⟩])
  (.seq (.cond (.t 90) .skip (.exit 4))
  (.seq (.block 5 (.seq (.reg [⟨some 91, .p (.index 4 1 false (.t 88) (.t 89)), none⟩,
    ⟨some 9, .p (.mov (.t 91)), none⟩])
  (.reg [⟨some 92, .p (.mov (.t 3)), none⟩,
    ⟨some 93, .p (.mov (.t 92)), none⟩,
    ⟨some 94, .p (.mov (.t 9)), (some (93, true))⟩,
    ⟨some 95, .calli (.f 59) [.t 94, .c (.int .i64 0), .c (.int .i64 2)], (some (93, true))⟩,
    ⟨some 96, .p (.pick (.t 93) (.t 95) (.c (.bool false))), none⟩,
    ⟨some 3, .p (.mov (.t 96)), none⟩])))
  (.reg [⟨some 97, .p (.bin .add (.t 89) (.c (.int .i64 1))), none⟩,
    ⟨some 89, .p (.mov (.t 97)), none⟩]))))
def g17_stone_Check_c : ACode := (.seq (.reg [⟨some 1, .p (.boxL 1 (.t 0)), none⟩,
    ⟨some 2, .p (.mov (.c (.int .i64 0))), none⟩])
  (.seq (.reg [⟨some 10, .p (.lad 1 0), none⟩,
    ⟨some 11, .p (.loadL 1 1 false (some (.t 10))), none⟩,
    ⟨some 12, .p (.len (.t 11)), none⟩,
    ⟨some 13, .calli (.f 59) [.t 12, .c (.int .i64 1), .c (.int .i64 4)], none⟩,
    ⟨some 14, .p (.mov (.t 13)), none⟩,
    ⟨some 15, .p (.lad 1 1), (some (14, true))⟩,
    ⟨some 16, .p (.loadL 1 1 false (some (.t 15))), (some (14, true))⟩,
    ⟨some 17, .p (.len (.t 16)), (some (14, true))⟩,
    ⟨some 18, .p (.bin .leq (.t 17) (.c (.int .i64 5))), (some (14, true))⟩,
    ⟨some 19, .p (.pick (.t 14) (.t 18) (.c (.bool false))), none⟩,
    ⟨some 3, .p (.mov (.t 19)), none⟩])
  (.seq (.seq (.reg [⟨some 20, .p (.lad 1 0), none⟩,
    ⟨some 21, .p (.loadL 1 1 false (some (.t 20))), none⟩,
    ⟨some 22, .p (.len (.t 21)), none⟩,
    ⟨some 23, .p (.mov (.c (.int .i64 0))), none⟩])
  (.block 0 (.loop g17_stone_Check_l0)))
  (.seq (.seq (.reg [⟨some 49, .p (.lad 1 1), none⟩,
    ⟨some 50, .p (.loadL 1 1 false (some (.t 49))), none⟩,
    ⟨some 51, .p (.len (.t 50)), none⟩,
    ⟨some 52, .p (.mov (.c (.int .i64 0))), none⟩])
  (.block 2 (.loop g17_stone_Check_l1)))
  (.seq (.seq (.reg [⟨some 87, .p (.lad 1 2), none⟩,
    ⟨some 88, .p (.loadL 1 4 true (some (.t 87))), none⟩,
    ⟨some 89, .p (.mov (.c (.int .i64 0))), none⟩])
  (.block 4 (.loop g17_stone_Check_l2)))
  (.seq (.seq (.reg [⟨some 98, .p (.mov (.t 3)), none⟩,
    ⟨some 99, .p (.un .not (.t 98)), none⟩])
  (.cond (.t 99) (.seq (.reg [⟨some 2, .p (.mov (.c (.int .i64 30))), none⟩])
  .ret) .skip))
  (.seq (.reg [⟨some 2, .p (.mov (.c (.int .i64 0))), none⟩])
  .ret)))))))
def g17_stone_Check : AFn := ⟨g17_stone_Check_c, [.t 2], 1⟩

/-- macadam/macadamref03.Check -/
def g18_macadamref03_Check_l0 : ACode := (.seq (.seq (.reg [⟨some 18, .p (.mov (.t 3)), none⟩,
    ⟨some 19, .p (.mov (.t 18)), none⟩,
    ⟨some 20, .p (.mov (.t 4)), (some (19, true))⟩,
    ⟨some 21, .p (.lad 1 0), (some (19, true))⟩,
    ⟨some 22, .p (.loadL 1 1 false (some (.t 21))), (some (19, true))⟩,
    ⟨some 23, .p (.len (.t 22)), (some (19, true))⟩,
    ⟨some 24, .p (.bin .lss (.t 20) (.t 23)), (some (19, true))⟩,
    ⟨some 25, .p (.pick (.t 19) (.t 24) (.c (.bool false))), none⟩])
  (.cond (.t 25) .skip (.exit 0)))
  (.seq (.block 1 (.reg [⟨some 28, .p (.lad 1 0), none⟩,
    ⟨some 29, .p (.loadL 1 1 false (some (.t 28))), none⟩,
    ⟨some 30, .p (.mov (.t 4)), none⟩,
    ⟨some 31, .p (.iaddr none 4 (.t 29) (.t 30)), none⟩,
    ⟨some 32, .p (.faddr 0 (.t 31)), none⟩,
    ⟨some 33, .p (.loadC 2 true (.t 32)), none⟩,
    ⟨some 34, .calli (.f 42) [.t 33, .c (.int .i64 0), .c (.int .i64 60), .c (.int .i64 4)], none⟩,
    ⟨some 35, .p (.mov (.t 34)), none⟩,
    ⟨some 36, .p (.lad 1 0), (some (35, true))⟩,
    ⟨some 37, .p (.loadL 1 1 false (some (.t 36))), (some (35, true))⟩,
    ⟨some 38, .p (.mov (.t 4)), (some (35, true))⟩,
    ⟨some 39, .p (.iaddr none 4 (.t 37) (.t 38)), (some (35, true))⟩,
    ⟨some 40, .p (.faddr 2 (.t 39)), (some (35, true))⟩,
    ⟨some 41, .p (.loadC 2 true (.t 40)), (some (35, true))⟩,
    ⟨some 42, .calli (.f 42) [.t 41, .c (.int .i64 0), .c (.int .i64 99), .c (.int .i64 99)], (some (35, true))⟩,
    ⟨some 43, .p (.pick (.t 35) (.t 42) (.c (.bool false))), none⟩,
    ⟨some 3, .p (.mov (.t 43)), none⟩]))
  (.reg [⟨some 26, .p (.mov (.t 4)), none⟩,
    ⟨some 27, .p (.bin .add (.t 26) (.c (.int .i64 1))), none⟩,
    ⟨some 4, .p (.mov (.t 27)), none⟩])))
def g18_macadamref03_Check_l1 : ACode := (.seq (.seq (.reg [⟨some 44, .p (.mov (.t 3)), none⟩,
    ⟨some 45, .p (.mov (.t 44)), none⟩,
    ⟨some 46, .p (.mov (.t 5)), (some (45, true))⟩,
    ⟨some 47, .p (.lad 1 1), (some (45, true))⟩,
    ⟨some 48, .p (.loadL 1 1 false (some (.t 47))), (some (45, true))⟩,
    ⟨some 49, .p (.len (.t 48)), (some (45, true))⟩,
    ⟨some 50, .p (.bin .lss (.t 46) (.t 49)), (some (45, true))⟩,
    ⟨some 51, .p (.pick (.t 45) (.t 50) (.c (.bool false))), none⟩])
  (.cond (.t 51) .skip (.exit 2)))
  (.seq (.block 3 (.seq (.reg [⟨some 54, .p (.lad 1 1), none⟩,
    ⟨some 55, .p (.loadL 1 1 false (some (.t 54))), none⟩,
    ⟨some 56, .p (.mov (.t 5)), none⟩,
    ⟨some 57, .p (.iaddr none 4 (.t 55) (.t 56)), none⟩,
    ⟨some 58, .p (.loadC 4 true (.t 57)), none⟩,
    ⟨some 6, .p (.allocL 6 [.int .i64 0, .int .i64 0, .int .i64 0, .int .i64 0]), none⟩,
    ⟨none, .p (.storeL 6 4 none (.t 58)), none⟩])
  (.reg [⟨some 59, .p (.loadL 1 6 true none), none⟩,
    ⟨some 60, .p (.lad 6 0), none⟩,
    ⟨some 61, .p (.loadL 6 1 false (some (.t 60))), none⟩,
    ⟨some 62, .calli (.f 64) [.t 59, .t 61], none⟩,
    ⟨some 63, .p (.mov (.t 62)), none⟩,
    ⟨some 64, .p (.loadL 1 6 true none), (some (63, true))⟩,
    ⟨some 65, .p (.lad 6 1), (some (63, true))⟩,
    ⟨some 66, .p (.loadL 6 1 false (some (.t 65))), (some (63, true))⟩,
    ⟨some 67, .calli (.f 64) [.t 64, .t 66], (some (63, true))⟩,
    ⟨some 68, .p (.pick (.t 63) (.t 67) (.c (.bool false))), none⟩,
    ⟨some 69, .p (.mov (.t 68)), none⟩,
    ⟨some 70, .p (.lad 6 0), (some (69, true))⟩,
    ⟨some 71, .p (.loadL 6 1 false (some (.t 70))), (some (69, true))⟩,
    ⟨some 72, .p (.lad 6 1), (some (69, true))⟩,
    ⟨some 73, .p (.loadL 6 1 false (some (.t 72))), (some (69, true))⟩,
    ⟨some 74, .p (.bin .neq (.t 71) (.t 73)), (some (69, true))⟩,
    ⟨some 75, .p (.pick (.t 69) (.t 74) (.c (.bool false))), none⟩,
    ⟨some 76, .p (.mov (.t 75)), none⟩,
    ⟨some 77, .p (.lad 6 2), (some (76, true))⟩,
    ⟨some 78, .p (.loadL 6 1 false (some (.t 77))), (some (76, true))⟩,
    ⟨some 79, .calli (.f 65) [.t 78], (some (76, true))⟩,
    ⟨some 80, .p (.pick (.t 76) (.t 79) (.c (.bool false))), none⟩,
    ⟨some 81, .p (.mov (.t 80)), none⟩,
    ⟨some 82, .p (.lad 6 3), (some (81, true))⟩,
    ⟨some 83, .p (.loadL 6 1 false (some (.t 82))), (some (81, true))⟩,
    ⟨some 84, .calli (.f 63) [.t 83, .c (.int .i64 0), .c (.int .i64 6)], (some (81, true))⟩,
    ⟨some 85, .p (.pick (.t 81) (.t 84) (.c (.bool false))), none⟩,
    ⟨some 3, .p (.mov (.t 85)), none⟩])))
  (.reg [⟨some 52, .p (.mov (.t 5)), none⟩,
    ⟨some 53, .p (.bin .add (.t 52) (.c (.int .i64 1))), none⟩,
    ⟨some 5, .p (.mov (.t 53)), none⟩])))
def g18_macadamref03_Check_l2 : ACode := (.seq (.seq (.reg [⟨some 86, .p (.mov (.t 3)), none⟩,
    ⟨some 87, .p (.mov (.t 86)), none⟩,
    ⟨some 88, .p (.mov (.t 7)), (some (87, true))⟩,
    ⟨some 89, .p (.bin .lss (.t 88) (.c (.int .i64 4))), (some (87, true))⟩,
    ⟨some 90, .p (.pick (.t 87) (.t 89) (.c (.bool false))), none⟩])
  (.cond (.t 90) .skip (.exit 4)))
  (.seq (.block 5 (.reg [⟨some 93, .p (.mov (.t 7)), none⟩,
    ⟨some 94, .p (.lad 1 2), none⟩,
    ⟨some 95, .p (.iaddr (some 4) 1 (.t 94) (.t 93)), none⟩,
    ⟨some 96, .p (.loadL 1 1 false (some (.t 95))), none⟩,
    ⟨some 97, .calli (.f 63) [.t 96, .c (.int .i64 0), .c (.int .i64 2)], none⟩,
    ⟨some 3, .p (.mov (.t 97)), none⟩]))
  (.reg [⟨some 91, .p (.mov (.t 7)), none⟩,
    ⟨some 92, .p (.bin .add (.t 91) (.c (.int .i64 1))), none⟩,
    ⟨some 7, .p (.mov (.t 92)), none⟩])))
def g18_macadamref03_Check_c : ACode := (.seq (.reg [⟨some 1, .p (.boxL 1 (.t 0)), none⟩,
    ⟨some 2, .p (.mov (.c (.int .i64 0))), none⟩])
  (.seq (.reg [⟨some 8, .p (.lad 1 0), none⟩,
    ⟨some 9, .p (.loadL 1 1 false (some (.t 8))), none⟩,
    ⟨some 10, .p (.len (.t 9)), none⟩,
    ⟨some 11, .calli (.f 63) [.t 10, .c (.int .i64 1), .c (.int .i64 4)], none⟩,
    ⟨some 12, .p (.mov (.t 11)), none⟩,
    ⟨some 13, .p (.lad 1 1), (some (12, true))⟩,
    ⟨some 14, .p (.loadL 1 1 false (some (.t 13))), (some (12, true))⟩,
    ⟨some 15, .p (.len (.t 14)), (some (12, true))⟩,
    ⟨some 16, .p (.bin .leq (.t 15) (.c (.int .i64 5))), (some (12, true))⟩,
    ⟨some 17, .p (.pick (.t 12) (.t 16) (.c (.bool false))), none⟩,
    ⟨some 3, .p (.mov (.t 17)), none⟩])
  (.seq (.seq (.reg [⟨some 4, .p (.mov (.c (.int .i64 0))), none⟩])
  (.block 0 (.loop g18_macadamref03_Check_l0)))
  (.seq (.seq (.reg [⟨some 5, .p (.mov (.c (.int .i64 0))), none⟩])
  (.block 2 (.loop g18_macadamref03_Check_l1)))
  (.seq (.seq (.reg [⟨some 7, .p (.mov (.c (.int .i64 0))), none⟩])
  (.block 4 (.loop g18_macadamref03_Check_l2)))
  (.seq (.seq (.reg [⟨some 98, .p (.mov (.t 3)), none⟩,
    ⟨some 99, .p (.un .not (.t 98)), none⟩])
  (.cond (.t 99) (.seq (.reg [⟨some 2, .p (.mov (.c (.int .i64 30))), none⟩])
  .ret) .skip))
  (.seq (.reg [⟨some 2, .p (.mov (.c (.int .i64 0))), none⟩])
  .ret)))))))
def g18_macadamref03_Check : AFn := ⟨g18_macadamref03_Check_c, [.t 2], 1⟩

/-- macadam/stone.Yards -/
def g19_stone_Yards_c : ACode := (.seq (.reg [⟨some 2, .p (.boxL 2 (.t 0)), none⟩,
    ⟨some 3, .p (.boxL 3 (.t 1)), none⟩,
    ⟨some 4, .p (.allocL 4 [.int .i64 0, .int .i64 0]), none⟩,
    ⟨some 5, .p (.mov (.c (.int .i64 0))), none⟩])
  (.seq (.reg [⟨some 9, .p (.loadL 2 6 true none), none⟩,
    ⟨some 10, .p (.loadL 2 6 true none), none⟩,
    ⟨some 11, .p (.loadL 3 1 false none), none⟩,
    ⟨some 12, .calli (.f 67) [.t 10, .t 11], none⟩,
    ⟨some 13, .calli (.f 66) [.t 9, .t 12], none⟩,
    ⟨some 8, .p (.mov (.t 13)), none⟩,
    ⟨some 14, .p (.extract (.t 8) 0), none⟩,
    ⟨some 15, .p (.extract (.t 8) 1), none⟩,
    ⟨some 6, .p (.allocL 6 [.sl [] .exact, .sl [] .exact, .int .i64 0, .int .i64 0, .int .i64 0, .int .i64 0, .nilf, .nilm]), none⟩,
    ⟨none, .p (.storeL 6 8 none (.t 14)), none⟩,
    ⟨some 7, .p (.mov (.t 15)), none⟩])
  (.seq (.seq (.reg [⟨some 16, .p (.mov (.t 7)), none⟩,
    ⟨some 17, .p (.bin .neq (.t 16) (.c (.int .i64 0))), none⟩])
  (.cond (.t 17) (.seq (.reg [⟨some 18, .p (.build [.int .i64 0, .int .i64 0] []), none⟩,
    ⟨some 19, .p (.mov (.t 7)), none⟩,
    ⟨none, .p (.storeL 4 2 none (.t 18)), none⟩,
    ⟨some 5, .p (.mov (.t 19)), none⟩])
  .ret) .skip))
  (.seq (.frz [3] (.reg [⟨some 20, .p (.loadL 6 8 true none), none⟩,
    ⟨some 21, .p (.mkfn 69 [] [.t 3]), none⟩,
    ⟨some 22, .calli (.f 68) [.t 20, .t 21], none⟩,
    ⟨none, .p (.storeL 4 2 none (.t 22)), none⟩,
    ⟨some 5, .p (.mov (.c (.int .i64 0))), none⟩]))
  .ret))))
def g19_stone_Yards : AFn := ⟨g19_stone_Yards_c, [.cellL 4 2 true, .t 5], 2⟩

/-- macadam/macadamref03.Yards -/
def g20_macadamref03_Yards_l0 : ACode := (.seq (.seq (.reg [⟨some 22, .p (.mov (.t 9)), none⟩,
    ⟨some 23, .p (.mov (.t 6)), none⟩,
    ⟨some 24, .p (.len (.t 23)), none⟩,
    ⟨some 25, .p (.bin .lss (.t 22) (.t 24)), none⟩])
  (.cond (.t 25) .skip (.exit 0)))
  (.seq (.block 1 (.reg [⟨some 28, .p (.mov (.t 8)), none⟩,
    ⟨some 29, .p (.mov (.t 6)), none⟩,
    ⟨some 30, .p (.mov (.t 9)), none⟩,
    ⟨some 31, .p (.iaddr none 1 (.t 29) (.t 30)), none⟩,
    ⟨some 32, .p (.loadC 1 false (.t 31)), none⟩,
    ⟨some 33, .p (.mov (.t 1)), none⟩,
    ⟨some 34, .p (.iaddr none 1 (.t 32) (.t 33)), none⟩,
    ⟨some 35, .p (.loadC 1 false (.t 34)), none⟩,
    ⟨some 36, .p (.bslice 1 [.int .i64 0] 1 [(0, .t 35)]), none⟩,
    ⟨some 37, .h (.append 1 8 (.t 28) (.t 36)), none⟩,
    ⟨some 8, .p (.mov (.t 37)), none⟩]))
  (.reg [⟨some 26, .p (.mov (.t 9)), none⟩,
    ⟨some 27, .p (.bin .add (.t 26) (.c (.int .i64 1))), none⟩,
    ⟨some 9, .p (.mov (.t 27)), none⟩])))
def g20_macadamref03_Yards_c : ACode := (.seq (.reg [⟨some 2, .p (.boxL 2 (.t 0)), none⟩,
    ⟨some 4, .p (.allocL 4 [.int .i64 0, .int .i64 0]), none⟩,
    ⟨some 5, .p (.mov (.c (.int .i64 0))), none⟩])
  (.seq (.reg [⟨some 11, .p (.loadL 2 6 true none), none⟩,
    ⟨some 12, .p (.loadL 2 6 true none), none⟩,
    ⟨some 13, .p (.mov (.t 1)), none⟩,
    ⟨some 14, .calli (.f 71) [.t 12, .t 13], none⟩,
    ⟨some 15, .calli (.f 70) [.t 11, .t 14], none⟩,
    ⟨some 10, .p (.mov (.t 15)), none⟩,
    ⟨some 16, .p (.extract (.t 10) 0), none⟩,
    ⟨some 17, .p (.extract (.t 10) 1), none⟩,
    ⟨some 6, .p (.mov (.t 16)), none⟩,
    ⟨some 7, .p (.mov (.t 17)), none⟩])
  (.seq (.seq (.reg [⟨some 18, .p (.mov (.t 7)), none⟩,
    ⟨some 19, .p (.bin .neq (.t 18) (.c (.int .i64 0))), none⟩])
  (.cond (.t 19) (.seq (.reg [⟨some 20, .p (.build [.int .i64 0, .int .i64 0] []), none⟩,
    ⟨some 21, .p (.mov (.t 7)), none⟩,
    ⟨none, .p (.storeL 4 2 none (.t 20)), none⟩,
    ⟨some 5, .p (.mov (.t 21)), none⟩])
  .ret) .skip))
  (.seq (.reg [⟨some 8, .p (.mov (.c (.sl [] .exact))), none⟩])
  (.seq (.seq (.reg [⟨some 9, .p (.mov (.c (.int .i64 0))), none⟩])
  (.block 0 (.loop g20_macadamref03_Yards_l0)))
  (.seq (.reg [⟨some 38, .p (.mov (.t 8)), none⟩,
    ⟨some 39, .calli (.f 72) [.t 38], none⟩,
    ⟨none, .p (.storeL 4 2 none (.t 39)), none⟩,
    ⟨some 5, .p (.mov (.c (.int .i64 0))), none⟩])
  .ret))))))
def g20_macadamref03_Yards : AFn := ⟨g20_macadamref03_Yards_c, [.cellL 4 2 true, .t 5], 2⟩

/-- macadam/stone.Heap -/
def g21_stone_Heap_c : ACode := (.seq (.reg [⟨some 3, .p (.boxL 3 (.t 0)), none⟩,
    ⟨some 4, .p (.boxL 4 (.t 1)), none⟩,
    ⟨some 5, .p (.boxL 5 (.t 2)), none⟩,
    ⟨some 6, .p (.allocL 6 [.int .i64 0, .int .i64 0]), none⟩,
    ⟨some 7, .p (.mov (.c (.int .i64 0))), none⟩])
  (.seq (.reg [⟨some 11, .p (.loadL 3 6 true none), none⟩,
    ⟨some 12, .p (.loadL 3 6 true none), none⟩,
    ⟨some 13, .p (.loadL 4 1 false none), none⟩,
    ⟨some 14, .calli (.f 73) [.t 12, .t 13], none⟩,
    ⟨some 15, .p (.mov (.t 14)), none⟩,
    ⟨some 16, .p (.loadL 5 1 false none), (some (15, true))⟩,
    ⟨some 17, .p (.lad 3 1), (some (15, true))⟩,
    ⟨some 18, .p (.loadL 3 1 false (some (.t 17))), (some (15, true))⟩,
    ⟨some 19, .p (.len (.t 18)), (some (15, true))⟩,
    ⟨some 20, .calli (.f 59) [.t 16, .c (.int .i64 0), .t 19], (some (15, true))⟩,
    ⟨some 21, .p (.pick (.t 15) (.t 20) (.c (.bool false))), none⟩,
    ⟨some 22, .calli (.f 66) [.t 11, .t 21], none⟩,
    ⟨some 10, .p (.mov (.t 22)), none⟩,
    ⟨some 23, .p (.extract (.t 10) 0), none⟩,
    ⟨some 24, .p (.extract (.t 10) 1), none⟩,
    ⟨some 8, .p (.allocL 8 [.sl [] .exact, .sl [] .exact, .int .i64 0, .int .i64 0, .int .i64 0, .int .i64 0, .nilf, .nilm]), none⟩,
    ⟨none, .p (.storeL 8 8 none (.t 23)), none⟩,
    ⟨some 9, .p (.mov (.t 24)), none⟩])
  (.seq (.seq (.reg [⟨some 25, .p (.mov (.t 9)), none⟩,
    ⟨some 26, .p (.bin .neq (.t 25) (.c (.int .i64 0))), none⟩])
  (.cond (.t 26) (.seq (.reg [⟨some 27, .p (.build [.int .i64 0, .int .i64 0] []), none⟩,
    ⟨some 28, .p (.mov (.t 9)), none⟩,
    ⟨none, .p (.storeL 6 2 none (.t 27)), none⟩,
    ⟨some 7, .p (.mov (.t 28)), none⟩])
  .ret) .skip))
  (.seq (.frz [4, 5, 8] (.reg [⟨some 29, .p (.loadL 8 8 true none), none⟩,
    ⟨some 30, .p (.mkfn 74 [] [.t 8, .t 4, .t 5]), none⟩,
    ⟨some 31, .calli (.f 68) [.t 29, .t 30], none⟩,
    ⟨none, .p (.storeL 6 2 none (.t 31)), none⟩,
    ⟨some 7, .p (.mov (.c (.int .i64 0))), none⟩]))
  .ret))))
def g21_stone_Heap : AFn := ⟨g21_stone_Heap_c, [.cellL 6 2 true, .t 7], 3⟩

/-- macadam/macadamref03.Heap -/
def g22_macadamref03_Heap_l0 : ACode := (.seq (.seq (.reg [⟨some 47, .p (.mov (.t 13)), none⟩,
    ⟨some 48, .p (.mov (.t 12)), none⟩,
    ⟨some 49, .p (.len (.t 48)), none⟩,
    ⟨some 50, .p (.bin .lss (.t 47) (.t 49)), none⟩])
  (.cond (.t 50) .skip (.exit 2)))
  (.seq (.block 3 (.seq (.reg [⟨some 53, .p (.lad 3 0), none⟩,
    ⟨some 54, .p (.loadL 3 1 false (some (.t 53))), none⟩,
    ⟨some 55, .p (.len (.t 54)), none⟩,
    ⟨some 56, .h (.mslice 1 [.int .i64 0] (.t 55) (.t 55)), none⟩,
    ⟨some 57, .p (.mov (.t 8)), none⟩,
    ⟨some 58, .p (.mov (.t 11)), none⟩,
    ⟨some 59, .p (.iaddr none 1 (.t 57) (.t 58)), none⟩,
    ⟨some 60, .p (.loadC 1 false (.t 59)), none⟩,
    ⟨some 61, .p (.build [.sl [] .exact, .sl [] .exact] [(0, 1, .t 56), (1, 1, .t 60)]), none⟩,
    ⟨some 14, .p (.allocL 14 [.sl [] .exact, .sl [] .exact]), none⟩,
    ⟨none, .p (.storeL 14 2 none (.t 61)), none⟩])
  (.seq (.reg [⟨some 62, .p (.lad 14 0), none⟩,
    ⟨some 63, .p (.loadL 14 1 false (some (.t 62))), none⟩,
    ⟨some 64, .p (.mov (.t 1)), none⟩,
    ⟨some 65, .p (.mov (.t 12)), none⟩,
    ⟨some 66, .p (.mov (.t 13)), none⟩,
    ⟨some 67, .p (.iaddr none 1 (.t 65) (.t 66)), none⟩,
    ⟨some 68, .p (.loadC 1 false (.t 67)), none⟩,
    ⟨some 69, .p (.iaddr none 1 (.t 63) (.t 64)), none⟩,
    ⟨none, .h (.store 1 (.t 69) (.t 68)), none⟩])
  (.reg [⟨some 70, .p (.mov (.t 10)), none⟩,
    ⟨some 71, .p (.loadL 3 6 true none), none⟩,
    ⟨some 72, .p (.loadL 14 2 true none), none⟩,
    ⟨some 73, .p (.mov (.t 1)), none⟩,
    ⟨some 74, .p (.mov (.t 2)), none⟩,
    ⟨some 75, .call (.f 78) [.t 71, .t 72, .t 73, .t 74], none⟩,
    ⟨some 76, .p (.bslice 1 [.int .i64 0] 1 [(0, .t 75)]), none⟩,
    ⟨some 77, .h (.append 1 8 (.t 70) (.t 76)), none⟩,
    ⟨some 10, .p (.mov (.t 77)), none⟩]))))
  (.reg [⟨some 51, .p (.mov (.t 13)), none⟩,
    ⟨some 52, .p (.bin .add (.t 51) (.c (.int .i64 1))), none⟩,
    ⟨some 13, .p (.mov (.t 52)), none⟩])))
def g22_macadamref03_Heap_l1 : ACode := (.seq (.seq (.reg [⟨some 34, .p (.mov (.t 11)), none⟩,
    ⟨some 35, .p (.mov (.t 8)), none⟩,
    ⟨some 36, .p (.len (.t 35)), none⟩,
    ⟨some 37, .p (.bin .lss (.t 34) (.t 36)), none⟩])
  (.cond (.t 37) .skip (.exit 0)))
  (.seq (.block 1 (.seq (.reg [⟨some 40, .p (.loadL 3 6 true none), none⟩,
    ⟨some 41, .p (.mov (.t 8)), none⟩,
    ⟨some 42, .p (.mov (.t 11)), none⟩,
    ⟨some 43, .p (.iaddr none 1 (.t 41) (.t 42)), none⟩,
    ⟨some 44, .p (.loadC 1 false (.t 43)), none⟩,
    ⟨some 45, .p (.mov (.t 1)), none⟩,
    ⟨some 46, .calli (.f 77) [.t 40, .t 44, .t 45], none⟩,
    ⟨some 12, .p (.mov (.t 46)), none⟩])
  (.seq (.reg [⟨some 13, .p (.mov (.c (.int .i64 0))), none⟩])
  (.block 2 (.loop g22_macadamref03_Heap_l0)))))
  (.reg [⟨some 38, .p (.mov (.t 11)), none⟩,
    ⟨some 39, .p (.bin .add (.t 38) (.c (.int .i64 1))), none⟩,
    ⟨some 11, .p (.mov (.t 39)), none⟩])))
def g22_macadamref03_Heap_c : ACode := (.seq (.reg [⟨some 3, .p (.boxL 3 (.t 0)), none⟩,
    ⟨some 6, .p (.allocL 6 [.int .i64 0, .int .i64 0]), none⟩,
    ⟨some 7, .p (.mov (.c (.int .i64 0))), none⟩])
  (.seq (.reg [⟨some 16, .p (.loadL 3 6 true none), none⟩,
    ⟨some 17, .p (.loadL 3 6 true none), none⟩,
    ⟨some 18, .p (.mov (.t 1)), none⟩,
    ⟨some 19, .calli (.f 76) [.t 17, .t 18], none⟩,
    ⟨some 20, .p (.mov (.t 19)), none⟩,
    ⟨some 21, .p (.mov (.t 2)), (some (20, true))⟩,
    ⟨some 22, .p (.lad 3 1), (some (20, true))⟩,
    ⟨some 23, .p (.loadL 3 1 false (some (.t 22))), (some (20, true))⟩,
    ⟨some 24, .p (.len (.t 23)), (some (20, true))⟩,
    ⟨some 25, .calli (.f 63) [.t 21, .c (.int .i64 0), .t 24], (some (20, true))⟩,
    ⟨some 26, .p (.pick (.t 20) (.t 25) (.c (.bool false))), none⟩,
    ⟨some 27, .calli (.f 70) [.t 16, .t 26], none⟩,
    ⟨some 15, .p (.mov (.t 27)), none⟩,
    ⟨some 28, .p (.extract (.t 15) 0), none⟩,
    ⟨some 29, .p (.extract (.t 15) 1), none⟩,
    ⟨some 8, .p (.mov (.t 28)), none⟩,
    ⟨some 9, .p (.mov (.t 29)), none⟩])
  (.seq (.seq (.reg [⟨some 30, .p (.mov (.t 9)), none⟩,
    ⟨some 31, .p (.bin .neq (.t 30) (.c (.int .i64 0))), none⟩])
  (.cond (.t 31) (.seq (.reg [⟨some 32, .p (.build [.int .i64 0, .int .i64 0] []), none⟩,
    ⟨some 33, .p (.mov (.t 9)), none⟩,
    ⟨none, .p (.storeL 6 2 none (.t 32)), none⟩,
    ⟨some 7, .p (.mov (.t 33)), none⟩])
  .ret) .skip))
  (.seq (.reg [⟨some 10, .p (.mov (.c (.sl [] .exact))), none⟩])
  (.seq (.seq (.reg [⟨some 11, .p (.mov (.c (.int .i64 0))), none⟩])
  (.block 0 (.loop g22_macadamref03_Heap_l1)))
  (.seq (.reg [⟨some 78, .p (.mov (.t 10)), none⟩,
    ⟨some 79, .calli (.f 72) [.t 78], none⟩,
    ⟨none, .p (.storeL 6 2 none (.t 79)), none⟩,
    ⟨some 7, .p (.mov (.c (.int .i64 0))), none⟩])
  .ret))))))
def g22_macadamref03_Heap : AFn := ⟨g22_macadamref03_Heap_c, [.cellL 6 2 true, .t 7], 3⟩

/-- macadam/macadamlaw03.heaped -/
def g23_macadamlaw03_heaped_c : ACode := (.seq (.reg [⟨some 0, .p (.mov (.c (.bool false))), none⟩])
  (.seq (.reg [⟨some 15, .calli (.f 52) [], none⟩,
    ⟨some 16, .calli (.f 19) [.t 15, .c (.int .i64 2)], none⟩,
    ⟨some 14, .p (.mov (.t 16)), none⟩,
    ⟨some 17, .p (.extract (.t 14) 0), none⟩,
    ⟨some 18, .p (.extract (.t 14) 1), none⟩,
    ⟨some 1, .p (.allocL 1 [.int .i64 0, .int .i64 0]), none⟩,
    ⟨none, .p (.storeL 1 2 none (.t 17)), none⟩,
    ⟨some 2, .p (.mov (.t 18)), none⟩])
  (.seq (.reg [⟨some 20, .calli (.f 52) [], none⟩,
    ⟨some 21, .calli (.f 21) [.t 20, .c (.int .i64 0), .c (.int .i64 1)], none⟩,
    ⟨some 19, .p (.mov (.t 21)), none⟩,
    ⟨some 22, .p (.extract (.t 19) 0), none⟩,
    ⟨some 23, .p (.extract (.t 19) 1), none⟩,
    ⟨some 3, .p (.allocL 3 [.int .i64 0, .int .i64 0]), none⟩,
    ⟨none, .p (.storeL 3 2 none (.t 22)), none⟩,
    ⟨some 4, .p (.mov (.t 23)), none⟩])
  (.seq (.reg [⟨some 25, .calli (.f 52) [], none⟩,
    ⟨some 26, .calli (.f 24) [.t 25], none⟩,
    ⟨some 24, .p (.mov (.t 26)), none⟩,
    ⟨some 27, .p (.extract (.t 24) 0), none⟩,
    ⟨some 28, .p (.extract (.t 24) 1), none⟩,
    ⟨some 5, .p (.allocL 5 [.int .i64 0, .int .i64 0]), none⟩,
    ⟨none, .p (.storeL 5 2 none (.t 27)), none⟩,
    ⟨some 6, .p (.mov (.t 28)), none⟩])
  (.seq (.reg [⟨some 30, .calli (.f 52) [], none⟩,
    ⟨some 31, .calli (.f 26) [.t 30, .c (.int .i64 1), .c (.int .i64 2)], none⟩,
    ⟨some 29, .p (.mov (.t 31)), none⟩,
    ⟨some 32, .p (.extract (.t 29) 0), none⟩,
    ⟨some 33, .p (.extract (.t 29) 1), none⟩,
    ⟨some 7, .p (.allocL 7 [.int .i64 0, .int .i64 0]), none⟩,
    ⟨none, .p (.storeL 7 2 none (.t 32)), none⟩,
    ⟨some 8, .p (.mov (.t 33)), none⟩])
  (.seq (.reg [⟨some 35, .calli (.f 54) [], none⟩,
    ⟨some 36, .calli (.f 28) [.t 35], none⟩,
    ⟨some 34, .p (.mov (.t 36)), none⟩,
    ⟨some 37, .p (.extract (.t 34) 0), none⟩,
    ⟨some 38, .p (.extract (.t 34) 1), none⟩,
    ⟨some 9, .p (.mov (.t 37)), none⟩,
    ⟨some 10, .p (.mov (.t 38)), none⟩])
  (.seq (.seq (.reg [⟨some 39, .p (.mov (.t 2)), none⟩,
    ⟨some 40, .p (.bin .neq (.t 39) (.c (.int .i64 0))), none⟩,
    ⟨some 41, .p (.mov (.t 40)), none⟩,
    ⟨some 42, .p (.mov (.t 4)), (some (41, false))⟩,
    ⟨some 43, .p (.bin .neq (.t 42) (.c (.int .i64 0))), (some (41, false))⟩,
    ⟨some 44, .p (.pick (.t 41) (.c (.bool true)) (.t 43)), none⟩,
    ⟨some 45, .p (.mov (.t 44)), none⟩,
    ⟨some 46, .p (.mov (.t 6)), (some (45, false))⟩,
    ⟨some 47, .p (.bin .neq (.t 46) (.c (.int .i64 0))), (some (45, false))⟩,
    ⟨some 48, .p (.pick (.t 45) (.c (.bool true)) (.t 47)), none⟩,
    ⟨some 49, .p (.mov (.t 48)), none⟩,
    ⟨some 50, .p (.mov (.t 8)), (some (49, false))⟩,
    ⟨some 51, .p (.bin .neq (.t 50) (.c (.int .i64 0))), (some (49, false))⟩,
    ⟨some 52, .p (.pick (.t 49) (.c (.bool true)) (.t 51)), none⟩,
    ⟨some 53, .p (.mov (.t 52)), none⟩,
    ⟨some 54, .p (.mov (.t 10)), (some (53, false))⟩,
    ⟨some 55, .p (.bin .neq (.t 54) (.c (.int .i64 0))), (some (53, false))⟩,
    ⟨some 56, .p (.pick (.t 53) (.c (.bool true)) (.t 55)), none⟩,
    ⟨some 57, .p (.mov (.t 56)), none⟩,
    ⟨some 58, .p (.loadL 1 2 true none), (some (57, false))⟩,
    ⟨some 59, .calli (.f 44) [.c (.int .i64 4), .c (.int .i64 5)], (some (57, false))⟩,
    ⟨some 60, .p (.eqn (some 2) true (.t 58) (.t 59)), (some (57, false))⟩,
    ⟨some 61, .p (.pick (.t 57) (.c (.bool true)) (.t 60)), none⟩,
    ⟨some 62, .p (.mov (.t 61)), none⟩,
    ⟨some 63, .p (.loadL 3 2 true none), (some (62, false))⟩,
    ⟨some 64, .calli (.f 44) [.c (.int .i64 13), .c (.int .i64 14)], (some (62, false))⟩,
    ⟨some 65, .p (.eqn (some 2) true (.t 63) (.t 64)), (some (62, false))⟩,
    ⟨some 66, .p (.pick (.t 62) (.c (.bool true)) (.t 65)), none⟩,
    ⟨some 67, .p (.mov (.t 66)), none⟩,
    ⟨some 68, .p (.loadL 5 2 true none), (some (67, false))⟩,
    ⟨some 69, .calli (.f 44) [.c (.int .i64 9), .c (.int .i64 11)], (some (67, false))⟩,
    ⟨some 70, .p (.eqn (some 2) true (.t 68) (.t 69)), (some (67, false))⟩,
    ⟨some 71, .p (.pick (.t 67) (.c (.bool true)) (.t 70)), none⟩,
    ⟨some 72, .p (.mov (.t 71)), none⟩,
    ⟨some 73, .p (.loadL 7 2 true none), (some (72, false))⟩,
    ⟨some 74, .calli (.f 44) [.c (.int .i64 20), .c (.int .i64 22)], (some (72, false))⟩,
    ⟨some 75, .p (.eqn (some 2) true (.t 73) (.t 74)), (some (72, false))⟩,
    ⟨some 76, .p (.pick (.t 72) (.c (.bool true)) (.t 75)), none⟩,
    ⟨some 77, .p (.mov (.t 76)), none⟩,
    ⟨some 78, .p (.mov (.t 9)), (some (77, false))⟩,
    ⟨some 79, .p (.bslice 1 [.int .i64 0] 1 [(0, .c (.int .i64 0))]), (some (77, false))⟩,
    ⟨some 80, .calli (.f 30) [.t 78, .t 79], (some (77, false))⟩,
    ⟨some 81, .p (.un .not (.t 80)), (some (77, false))⟩,
    ⟨some 82, .p (.pick (.t 77) (.c (.bool true)) (.t 81)), none⟩])
  (.cond (.t 82) (.seq (.reg [⟨some 0, .p (.mov (.c (.bool false))), none⟩])
  .ret) .skip))
  (.seq (.reg [⟨some 84, .calli (.f 52) [], none⟩,
    ⟨some 85, .calli (.f 31) [.t 84, .c (.int .i64 1), .c (.int .i64 5)], none⟩,
    ⟨some 83, .p (.mov (.t 85)), none⟩,
    ⟨some 86, .p (.extract (.t 83) 0), none⟩,
    ⟨some 87, .p (.extract (.t 83) 1), none⟩,
    ⟨some 11, .p (.mov (.t 86)), none⟩,
    ⟨some 2, .p (.mov (.t 87)), none⟩])
  (.seq (.reg [⟨some 89, .calli (.f 53) [], none⟩,
    ⟨some 90, .calli (.f 33) [.t 89], none⟩,
    ⟨some 88, .p (.mov (.t 90)), none⟩,
    ⟨some 91, .p (.extract (.t 88) 0), none⟩,
    ⟨some 92, .p (.extract (.t 88) 1), none⟩,
    ⟨some 12, .p (.mov (.t 91)), none⟩,
    ⟨some 4, .p (.mov (.t 92)), none⟩])
  (.seq (.reg [⟨some 94, .calli (.f 52) [], none⟩,
    ⟨some 95, .calli (.f 15) [.t 94], none⟩,
    ⟨some 93, .p (.mov (.t 95)), none⟩,
    ⟨some 96, .p (.extract (.t 93) 0), none⟩,
    ⟨some 97, .p (.extract (.t 93) 1), none⟩,
    ⟨some 13, .p (.mov (.t 96)), none⟩,
    ⟨some 6, .p (.mov (.t 97)), none⟩])
  (.seq (.reg [⟨some 98, .p (.mov (.t 2)), none⟩,
    ⟨some 99, .p (.bin .eql (.t 98) (.c (.int .i64 0))), none⟩,
    ⟨some 100, .p (.mov (.t 99)), none⟩,
    ⟨some 101, .p (.mov (.t 4)), (some (100, true))⟩,
    ⟨some 102, .p (.bin .eql (.t 101) (.c (.int .i64 0))), (some (100, true))⟩,
    ⟨some 103, .p (.pick (.t 100) (.t 102) (.c (.bool false))), none⟩,
    ⟨some 104, .p (.mov (.t 103)), none⟩,
    ⟨some 105, .p (.mov (.t 6)), (some (104, true))⟩,
    ⟨some 106, .p (.bin .eql (.t 105) (.c (.int .i64 0))), (some (104, true))⟩,
    ⟨some 107, .p (.pick (.t 104) (.t 106) (.c (.bool false))), none⟩,
    ⟨some 108, .p (.mov (.t 107)), none⟩,
    ⟨some 109, .p (.mov (.t 11)), (some (108, true))⟩,
    ⟨some 110, .p (.pick (.t 108) (.t 109) (.c (.bool false))), none⟩,
    ⟨some 111, .p (.mov (.t 110)), none⟩,
    ⟨some 112, .p (.mov (.t 12)), (some (111, true))⟩,
    ⟨some 113, .p (.bslice 1 [.int .i64 0] 1 [(0, .c (.int .i64 3))]), (some (111, true))⟩,
    ⟨some 114, .calli (.f 30) [.t 112, .t 113], (some (111, true))⟩,
    ⟨some 115, .p (.pick (.t 111) (.t 114) (.c (.bool false))), none⟩,
    ⟨some 116, .p (.mov (.t 115)), none⟩,
    ⟨some 117, .p (.mov (.t 13)), (some (116, true))⟩,
    ⟨some 118, .p (.pick (.t 116) (.t 117) (.c (.bool false))), none⟩,
    ⟨some 0, .p (.mov (.t 118)), none⟩])
  .ret)))))))))))
def g23_macadamlaw03_heaped : AFn := ⟨g23_macadamlaw03_heaped_c, [.t 0], 0⟩

/-- macadam/stone.Laid -/
def g24_stone_Laid_c : ACode := (.seq (.reg [⟨some 1, .p (.boxL 1 (.t 0)), none⟩,
    ⟨some 2, .p (.allocL 2 [.int .i64 0, .int .i64 0]), none⟩,
    ⟨some 3, .p (.mov (.c (.int .i64 0))), none⟩])
  (.seq (.reg [⟨some 7, .p (.loadL 1 6 true none), none⟩,
    ⟨some 8, .calli (.f 66) [.t 7, .c (.bool true)], none⟩,
    ⟨some 6, .p (.mov (.t 8)), none⟩,
    ⟨some 9, .p (.extract (.t 6) 0), none⟩,
    ⟨some 10, .p (.extract (.t 6) 1), none⟩,
    ⟨some 4, .p (.allocL 4 [.sl [] .exact, .sl [] .exact, .int .i64 0, .int .i64 0, .int .i64 0, .int .i64 0, .nilf, .nilm]), none⟩,
    ⟨none, .p (.storeL 4 8 none (.t 9)), none⟩,
    ⟨some 5, .p (.mov (.t 10)), none⟩])
  (.seq (.seq (.reg [⟨some 11, .p (.mov (.t 5)), none⟩,
    ⟨some 12, .p (.bin .neq (.t 11) (.c (.int .i64 0))), none⟩])
  (.cond (.t 12) (.seq (.reg [⟨some 13, .p (.build [.int .i64 0, .int .i64 0] []), none⟩,
    ⟨some 14, .p (.mov (.t 5)), none⟩,
    ⟨none, .p (.storeL 2 2 none (.t 13)), none⟩,
    ⟨some 3, .p (.mov (.t 14)), none⟩])
  .ret) .skip))
  (.seq (.reg [⟨some 15, .p (.loadL 4 8 true none), none⟩,
    ⟨some 16, .calli (.f 79) [.t 15, .f 80], none⟩,
    ⟨none, .p (.storeL 2 2 none (.t 16)), none⟩,
    ⟨some 3, .p (.mov (.c (.int .i64 0))), none⟩])
  .ret))))
def g24_stone_Laid : AFn := ⟨g24_stone_Laid_c, [.cellL 2 2 true, .t 3], 1⟩

/-- macadam/macadamref03.Laid -/
def g25_macadamref03_Laid_l0 : ACode := (.seq (.seq (.reg [⟨some 25, .p (.mov (.t 9)), none⟩,
    ⟨some 26, .p (.lad 1 1), none⟩,
    ⟨some 27, .p (.loadL 1 1 false (some (.t 26))), none⟩,
    ⟨some 28, .p (.len (.t 27)), none⟩,
    ⟨some 29, .p (.bin .lss (.t 25) (.t 28)), none⟩])
  (.cond (.t 29) .skip (.exit 2)))
  (.seq (.block 3 (.seq (.reg [⟨some 32, .p (.lad 1 1), none⟩,
    ⟨some 33, .p (.loadL 1 1 false (some (.t 32))), none⟩,
    ⟨some 34, .p (.mov (.t 9)), none⟩,
    ⟨some 35, .p (.iaddr none 4 (.t 33) (.t 34)), none⟩,
    ⟨some 36, .p (.faddr 1 (.t 35)), none⟩,
    ⟨some 37, .p (.loadC 1 false (.t 36)), none⟩,
    ⟨some 38, .p (.bin .eql (.t 37) (.c (.int .i64 (-1)))), none⟩])
  (.cond (.t 38) (.reg [⟨some 39, .p (.mov (.t 8)), none⟩,
    ⟨some 40, .p (.mov (.t 4)), none⟩,
    ⟨some 41, .p (.mov (.t 7)), none⟩,
    ⟨some 42, .p (.iaddr none 1 (.t 40) (.t 41)), none⟩,
    ⟨some 43, .p (.loadC 1 false (.t 42)), none⟩,
    ⟨some 44, .p (.mov (.t 9)), none⟩,
    ⟨some 45, .p (.iaddr none 1 (.t 43) (.t 44)), none⟩,
    ⟨some 46, .p (.loadC 1 false (.t 45)), none⟩,
    ⟨some 47, .p (.bin .add (.t 39) (.t 46)), none⟩,
    ⟨some 8, .p (.mov (.t 47)), none⟩]) .skip)))
  (.reg [⟨some 30, .p (.mov (.t 9)), none⟩,
    ⟨some 31, .p (.bin .add (.t 30) (.c (.int .i64 1))), none⟩,
    ⟨some 9, .p (.mov (.t 31)), none⟩])))
def g25_macadamref03_Laid_l1 : ACode := (.seq (.seq (.reg [⟨some 19, .p (.mov (.t 7)), none⟩,
    ⟨some 20, .p (.mov (.t 4)), none⟩,
    ⟨some 21, .p (.len (.t 20)), none⟩,
    ⟨some 22, .p (.bin .lss (.t 19) (.t 21)), none⟩])
  (.cond (.t 22) .skip (.exit 0)))
  (.seq (.block 1 (.seq (.reg [⟨some 8, .p (.mov (.c (.int .i64 0))), none⟩])
  (.seq (.seq (.reg [⟨some 9, .p (.mov (.c (.int .i64 0))), none⟩])
  (.block 2 (.loop g25_macadamref03_Laid_l0)))
  (.reg [⟨some 48, .p (.mov (.t 6)), none⟩,
    ⟨some 49, .p (.mov (.t 8)), none⟩,
    ⟨some 50, .p (.bslice 1 [.int .i64 0] 1 [(0, .t 49)]), none⟩,
    ⟨some 51, .h (.append 1 8 (.t 48) (.t 50)), none⟩,
    ⟨some 6, .p (.mov (.t 51)), none⟩]))))
  (.reg [⟨some 23, .p (.mov (.t 7)), none⟩,
    ⟨some 24, .p (.bin .add (.t 23) (.c (.int .i64 1))), none⟩,
    ⟨some 7, .p (.mov (.t 24)), none⟩])))
def g25_macadamref03_Laid_c : ACode := (.seq (.reg [⟨some 1, .p (.boxL 1 (.t 0)), none⟩,
    ⟨some 2, .p (.allocL 2 [.int .i64 0, .int .i64 0]), none⟩,
    ⟨some 3, .p (.mov (.c (.int .i64 0))), none⟩])
  (.seq (.reg [⟨some 11, .p (.loadL 1 6 true none), none⟩,
    ⟨some 12, .calli (.f 70) [.t 11, .c (.bool true)], none⟩,
    ⟨some 10, .p (.mov (.t 12)), none⟩,
    ⟨some 13, .p (.extract (.t 10) 0), none⟩,
    ⟨some 14, .p (.extract (.t 10) 1), none⟩,
    ⟨some 4, .p (.mov (.t 13)), none⟩,
    ⟨some 5, .p (.mov (.t 14)), none⟩])
  (.seq (.seq (.reg [⟨some 15, .p (.mov (.t 5)), none⟩,
    ⟨some 16, .p (.bin .neq (.t 15) (.c (.int .i64 0))), none⟩])
  (.cond (.t 16) (.seq (.reg [⟨some 17, .p (.build [.int .i64 0, .int .i64 0] []), none⟩,
    ⟨some 18, .p (.mov (.t 5)), none⟩,
    ⟨none, .p (.storeL 2 2 none (.t 17)), none⟩,
    ⟨some 3, .p (.mov (.t 18)), none⟩])
  .ret) .skip))
  (.seq (.reg [⟨some 6, .p (.mov (.c (.sl [] .exact))), none⟩])
  (.seq (.seq (.reg [⟨some 7, .p (.mov (.c (.int .i64 0))), none⟩])
  (.block 0 (.loop g25_macadamref03_Laid_l1)))
  (.seq (.reg [⟨some 52, .p (.mov (.t 6)), none⟩,
    ⟨some 53, .calli (.f 72) [.t 52], none⟩,
    ⟨none, .p (.storeL 2 2 none (.t 53)), none⟩,
    ⟨some 3, .p (.mov (.c (.int .i64 0))), none⟩])
  .ret))))))
def g25_macadamref03_Laid : AFn := ⟨g25_macadamref03_Laid_c, [.cellL 2 2 true, .t 3], 1⟩

/-- macadam/stone.Owed -/
def g26_stone_Owed_c : ACode := (.seq (.reg [⟨some 3, .p (.boxL 3 (.t 0)), none⟩,
    ⟨some 4, .p (.boxL 4 (.t 1)), none⟩,
    ⟨some 6, .p (.allocL 6 [.int .i64 0, .int .i64 0]), none⟩,
    ⟨some 7, .p (.mov (.c (.int .i64 0))), none⟩])
  (.seq (.reg [⟨some 12, .p (.loadL 3 6 true none), none⟩,
    ⟨some 13, .p (.loadL 4 1 false none), none⟩,
    ⟨some 14, .calli (.f 62) [.t 13], none⟩,
    ⟨some 15, .p (.mov (.t 14)), none⟩,
    ⟨some 16, .p (.mov (.t 2)), (some (15, true))⟩,
    ⟨some 17, .calli (.f 59) [.t 16, .c (.int .i64 0), .c (.int .i64 99)], (some (15, true))⟩,
    ⟨some 18, .p (.pick (.t 15) (.t 17) (.c (.bool false))), none⟩,
    ⟨some 19, .calli (.f 66) [.t 12, .t 18], none⟩,
    ⟨some 11, .p (.mov (.t 19)), none⟩,
    ⟨some 20, .p (.extract (.t 11) 0), none⟩,
    ⟨some 21, .p (.extract (.t 11) 1), none⟩,
    ⟨some 8, .p (.allocL 8 [.sl [] .exact, .sl [] .exact, .int .i64 0, .int .i64 0, .int .i64 0, .int .i64 0, .nilf, .nilm]), none⟩,
    ⟨none, .p (.storeL 8 8 none (.t 20)), none⟩,
    ⟨some 9, .p (.mov (.t 21)), none⟩])
  (.seq (.seq (.reg [⟨some 22, .p (.mov (.t 9)), none⟩,
    ⟨some 23, .p (.bin .neq (.t 22) (.c (.int .i64 0))), none⟩])
  (.cond (.t 23) (.seq (.reg [⟨some 24, .p (.build [.int .i64 0, .int .i64 0] []), none⟩,
    ⟨some 25, .p (.mov (.t 9)), none⟩,
    ⟨none, .p (.storeL 6 2 none (.t 24)), none⟩,
    ⟨some 7, .p (.mov (.t 25)), none⟩])
  .ret) .skip))
  (.seq (.frz [4] (.reg [⟨some 26, .p (.loadL 8 8 true none), none⟩,
    ⟨some 27, .p (.mkfn 81 [] [.t 4]), none⟩,
    ⟨some 28, .calli (.f 79) [.t 26, .t 27], none⟩,
    ⟨some 10, .p (.allocL 10 [.int .i64 0, .int .i64 0]), none⟩,
    ⟨none, .p (.storeL 10 2 none (.t 28)), none⟩]))
  (.seq (.reg [⟨some 29, .p (.lad 10 0), none⟩,
    ⟨some 30, .p (.loadL 10 1 false (some (.t 29))), none⟩,
    ⟨some 31, .p (.mov (.t 2)), none⟩,
    ⟨some 32, .p (.bin .mul (.t 30) (.t 31)), none⟩,
    ⟨some 33, .p (.lad 10 1), none⟩,
    ⟨some 34, .p (.loadL 10 1 false (some (.t 33))), none⟩,
    ⟨some 35, .p (.mov (.t 2)), none⟩,
    ⟨some 36, .p (.bin .mul (.t 34) (.t 35)), none⟩,
    ⟨some 37, .p (.build [.int .i64 0, .int .i64 0] [(0, 1, .t 32), (1, 1, .t 36)]), none⟩,
    ⟨none, .p (.storeL 6 2 none (.t 37)), none⟩,
    ⟨some 7, .p (.mov (.c (.int .i64 0))), none⟩])
  .ret)))))
def g26_stone_Owed : AFn := ⟨g26_stone_Owed_c, [.cellL 6 2 true, .t 7], 3⟩

/-- macadam/macadamref03.Owed -/
def g27_macadamref03_Owed_l0 : ACode := (.seq (.seq (.reg [⟨some 35, .p (.mov (.t 13)), none⟩,
    ⟨some 36, .p (.lad 3 1), none⟩,
    ⟨some 37, .p (.loadL 3 1 false (some (.t 36))), none⟩,
    ⟨some 38, .p (.len (.t 37)), none⟩,
    ⟨some 39, .p (.bin .lss (.t 35) (.t 38)), none⟩])
  (.cond (.t 39) .skip (.exit 2)))
  (.seq (.block 3 (.seq (.reg [⟨some 42, .p (.lad 3 1), none⟩,
    ⟨some 43, .p (.loadL 3 1 false (some (.t 42))), none⟩,
    ⟨some 44, .p (.mov (.t 13)), none⟩,
    ⟨some 45, .p (.iaddr none 4 (.t 43) (.t 44)), none⟩,
    ⟨some 46, .p (.faddr 2 (.t 45)), none⟩,
    ⟨some 47, .p (.loadC 1 false (.t 46)), none⟩,
    ⟨some 48, .p (.mov (.t 1)), none⟩,
    ⟨some 49, .p (.bin .eql (.t 47) (.t 48)), none⟩])
  (.cond (.t 49) (.reg [⟨some 50, .p (.mov (.t 12)), none⟩,
    ⟨some 51, .p (.mov (.t 8)), none⟩,
    ⟨some 52, .p (.mov (.t 11)), none⟩,
    ⟨some 53, .p (.iaddr none 1 (.t 51) (.t 52)), none⟩,
    ⟨some 54, .p (.loadC 1 false (.t 53)), none⟩,
    ⟨some 55, .p (.mov (.t 13)), none⟩,
    ⟨some 56, .p (.iaddr none 1 (.t 54) (.t 55)), none⟩,
    ⟨some 57, .p (.loadC 1 false (.t 56)), none⟩,
    ⟨some 58, .p (.bin .add (.t 50) (.t 57)), none⟩,
    ⟨some 12, .p (.mov (.t 58)), none⟩]) .skip)))
  (.reg [⟨some 40, .p (.mov (.t 13)), none⟩,
    ⟨some 41, .p (.bin .add (.t 40) (.c (.int .i64 1))), none⟩,
    ⟨some 13, .p (.mov (.t 41)), none⟩])))
def g27_macadamref03_Owed_l1 : ACode := (.seq (.seq (.reg [⟨some 29, .p (.mov (.t 11)), none⟩,
    ⟨some 30, .p (.mov (.t 8)), none⟩,
    ⟨some 31, .p (.len (.t 30)), none⟩,
    ⟨some 32, .p (.bin .lss (.t 29) (.t 31)), none⟩])
  (.cond (.t 32) .skip (.exit 0)))
  (.seq (.block 1 (.seq (.reg [⟨some 12, .p (.mov (.c (.int .i64 0))), none⟩])
  (.seq (.seq (.reg [⟨some 13, .p (.mov (.c (.int .i64 0))), none⟩])
  (.block 2 (.loop g27_macadamref03_Owed_l0)))
  (.reg [⟨some 59, .p (.mov (.t 10)), none⟩,
    ⟨some 60, .p (.mov (.t 2)), none⟩,
    ⟨some 61, .p (.mov (.t 12)), none⟩,
    ⟨some 62, .p (.bin .mul (.t 60) (.t 61)), none⟩,
    ⟨some 63, .p (.bslice 1 [.int .i64 0] 1 [(0, .t 62)]), none⟩,
    ⟨some 64, .h (.append 1 8 (.t 59) (.t 63)), none⟩,
    ⟨some 10, .p (.mov (.t 64)), none⟩]))))
  (.reg [⟨some 33, .p (.mov (.t 11)), none⟩,
    ⟨some 34, .p (.bin .add (.t 33) (.c (.int .i64 1))), none⟩,
    ⟨some 11, .p (.mov (.t 34)), none⟩])))
def g27_macadamref03_Owed_c : ACode := (.seq (.reg [⟨some 3, .p (.boxL 3 (.t 0)), none⟩,
    ⟨some 6, .p (.allocL 6 [.int .i64 0, .int .i64 0]), none⟩,
    ⟨some 7, .p (.mov (.c (.int .i64 0))), none⟩])
  (.seq (.reg [⟨some 15, .p (.loadL 3 6 true none), none⟩,
    ⟨some 16, .p (.mov (.t 1)), none⟩,
    ⟨some 17, .calli (.f 65) [.t 16], none⟩,
    ⟨some 18, .p (.mov (.t 17)), none⟩,
    ⟨some 19, .p (.mov (.t 2)), (some (18, true))⟩,
    ⟨some 20, .calli (.f 63) [.t 19, .c (.int .i64 0), .c (.int .i64 99)], (some (18, true))⟩,
    ⟨some 21, .p (.pick (.t 18) (.t 20) (.c (.bool false))), none⟩,
    ⟨some 22, .calli (.f 70) [.t 15, .t 21], none⟩,
    ⟨some 14, .p (.mov (.t 22)), none⟩,
    ⟨some 23, .p (.extract (.t 14) 0), none⟩,
    ⟨some 24, .p (.extract (.t 14) 1), none⟩,
    ⟨some 8, .p (.mov (.t 23)), none⟩,
    ⟨some 9, .p (.mov (.t 24)), none⟩])
  (.seq (.seq (.reg [⟨some 25, .p (.mov (.t 9)), none⟩,
    ⟨some 26, .p (.bin .neq (.t 25) (.c (.int .i64 0))), none⟩])
  (.cond (.t 26) (.seq (.reg [⟨some 27, .p (.build [.int .i64 0, .int .i64 0] []), none⟩,
    ⟨some 28, .p (.mov (.t 9)), none⟩,
    ⟨none, .p (.storeL 6 2 none (.t 27)), none⟩,
    ⟨some 7, .p (.mov (.t 28)), none⟩])
  .ret) .skip))
  (.seq (.reg [⟨some 10, .p (.mov (.c (.sl [] .exact))), none⟩])
  (.seq (.seq (.reg [⟨some 11, .p (.mov (.c (.int .i64 0))), none⟩])
  (.block 0 (.loop g27_macadamref03_Owed_l1)))
  (.seq (.reg [⟨some 65, .p (.mov (.t 10)), none⟩,
    ⟨some 66, .calli (.f 72) [.t 65], none⟩,
    ⟨none, .p (.storeL 6 2 none (.t 66)), none⟩,
    ⟨some 7, .p (.mov (.c (.int .i64 0))), none⟩])
  .ret))))))
def g27_macadamref03_Owed : AFn := ⟨g27_macadamref03_Owed_c, [.cellL 6 2 true, .t 7], 3⟩

/-- macadam/stone.Liars -/
def g28_stone_Liars_b0 : ACode := (.block 1 (.reg [⟨some 21, .h (.load 1 false (.t 6)), none⟩,
    ⟨some 22, .p (.loadC 8 true (.t 4)), none⟩,
    ⟨some 23, .p (.lad 7 0), none⟩,
    ⟨some 24, .p (.loadL 7 5 true (some (.t 23))), none⟩,
    ⟨some 25, .calli (.f 83) [.t 22, .t 24], none⟩,
    ⟨some 26, .p (.bin .and (.t 21) (.t 25)), none⟩,
    ⟨none, .h (.store 1 (.t 6) (.t 26)), none⟩]))
def g28_stone_Liars_l1 : ACode := (.seq (.reg [⟨some 28, .p (.bin .lss (.t 27) (.c (.int .i64 4))), none⟩])
  (.seq (.cond (.t 28) .skip (.exit 2))
  (.seq (.block 3 (.seq (.reg [⟨some 29, .p (.mov (.t 27)), none⟩,
    ⟨some 9, .p (.mov (.t 29)), none⟩])
  (.seq (.reg [⟨some 30, .h (.load 1 false (.t 6)), none⟩,
    ⟨some 31, .p (.mov (.t 9)), none⟩,
    ⟨some 32, .p (.bin .shr (.t 30) (.t 31)), none⟩,
    ⟨some 33, .p (.bin .and (.t 32) (.c (.int .i64 1))), none⟩,
    ⟨some 34, .p (.bin .eql (.t 33) (.c (.int .i64 1))), none⟩])
  (.cond (.t 34) (.reg [⟨some 35, .p (.mov (.t 8)), none⟩,
    ⟨some 36, .p (.mov (.t 9)), none⟩,
    ⟨some 37, .p (.bslice 1 [.int .i64 0] 1 [(0, .t 36)]), none⟩,
    ⟨some 38, .h (.append 1 8 (.t 35) (.t 37)), none⟩,
    ⟨some 8, .p (.mov (.t 38)), none⟩]) .skip))))
  (.reg [⟨some 39, .p (.bin .add (.t 27) (.c (.int .i64 1))), none⟩,
    ⟨some 27, .p (.mov (.t 39)), none⟩]))))
def g28_stone_Liars_c : ACode := (.seq (.reg [⟨some 1, .p (.boxL 1 (.t 0)), none⟩,
    ⟨some 2, .p (.mov (.c (.sl [] .exact))), none⟩,
    ⟨some 3, .p (.mov (.c (.int .i64 0))), none⟩])
  (.seq (.reg [⟨some 11, .p (.loadL 1 6 true none), none⟩,
    ⟨some 12, .calli (.f 66) [.t 11, .c (.bool true)], none⟩,
    ⟨some 10, .p (.mov (.t 12)), none⟩,
    ⟨some 13, .p (.extract (.t 10) 0), none⟩,
    ⟨some 14, .p (.extract (.t 10) 1), none⟩,
    ⟨some 4, .p (.allocL 4 [.sl [] .exact, .sl [] .exact, .int .i64 0, .int .i64 0, .int .i64 0, .int .i64 0, .nilf, .nilm]), none⟩,
    ⟨none, .p (.storeL 4 8 none (.t 13)), none⟩,
    ⟨some 5, .p (.mov (.t 14)), none⟩])
  (.seq (.seq (.reg [⟨some 15, .p (.mov (.t 5)), none⟩,
    ⟨some 16, .p (.bin .neq (.t 15) (.c (.int .i64 0))), none⟩])
  (.cond (.t 16) (.seq (.reg [⟨some 17, .p (.mov (.t 5)), none⟩,
    ⟨some 2, .p (.mov (.c (.sl [] .exact))), none⟩,
    ⟨some 3, .p (.mov (.t 17)), none⟩])
  .ret) .skip))
  (.seq (.reg [⟨some 6, .h (.alloc [.int .i64 0]), none⟩,
    ⟨none, .h (.store 1 (.t 6) (.c (.int .i64 15))), none⟩])
  (.seq (.seq (.reg [⟨some 18, .p (.loadL 4 8 true none), none⟩,
    ⟨some 19, .calli (.f 82) [.t 18], none⟩])
  (.block 0 (.frz [4] (.rangeF (.t 19) [20] (.reg [⟨some 7, .p (.allocL 7 [.int .i64 0, .int .i64 0, .int .i64 0, .int .i64 0, .int .i64 0, .int .i64 0, .int .i64 0, .int .i64 0, .int .i64 0, .int .i64 0, .int .i64 0, .int .i64 0, .int .i64 0]), none⟩,
    ⟨none, .p (.storeL 7 13 none (.t 20)), none⟩]) g28_stone_Liars_b0))))
  (.seq (.reg [⟨some 8, .p (.mov (.c (.sl [] .exact))), none⟩])
  (.seq (.seq (.reg [⟨some 27, .p (.mov (.c (.int .i64 0))), none⟩])
  (.block 2 (.loop g28_stone_Liars_l1)))
  (.seq (.reg [⟨some 40, .p (.mov (.t 8)), none⟩,
    ⟨some 41, .p (.mov (.t 8)), none⟩,
    ⟨some 42, .p (.len (.t 41)), none⟩,
    ⟨some 43, .p (.mov (.t 8)), none⟩,
    ⟨some 44, .p (.len (.t 43)), none⟩,
    ⟨some 45, .p (.slice 1 (.t 40) none (some (.t 42)) (some (.t 44))), none⟩,
    ⟨some 2, .p (.mov (.t 45)), none⟩,
    ⟨some 3, .p (.mov (.c (.int .i64 0))), none⟩])
  .ret))))))))
def g28_stone_Liars : AFn := ⟨g28_stone_Liars_c, [.t 2, .t 3], 1⟩

/-- macadam/macadamref03.Liars -/
def g29_macadamref03_Liars_l0 : ACode := (.seq (.seq (.reg [⟨some 31, .p (.mov (.t 11)), none⟩,
    ⟨some 32, .p (.lad 1 1), none⟩,
    ⟨some 33, .p (.loadL 1 1 false (some (.t 32))), none⟩,
    ⟨some 34, .p (.len (.t 33)), none⟩,
    ⟨some 35, .p (.bin .lss (.t 31) (.t 34)), none⟩])
  (.cond (.t 35) .skip (.exit 4)))
  (.seq (.block 5 (.reg [⟨some 38, .p (.mov (.t 10)), none⟩,
    ⟨some 39, .p (.mov (.t 38)), none⟩,
    ⟨some 40, .p (.lad 1 1), (some (39, false))⟩,
    ⟨some 41, .p (.loadL 1 1 false (some (.t 40))), (some (39, false))⟩,
    ⟨some 42, .p (.mov (.t 11)), (some (39, false))⟩,
    ⟨some 43, .p (.iaddr none 4 (.t 41) (.t 42)), (some (39, false))⟩,
    ⟨some 44, .p (.faddr 2 (.t 43)), (some (39, false))⟩,
    ⟨some 45, .p (.loadC 1 false (.t 44)), (some (39, false))⟩,
    ⟨some 46, .p (.mov (.t 7)), (some (39, false))⟩,
    ⟨some 47, .p (.bin .eql (.t 45) (.t 46)), (some (39, false))⟩,
    ⟨some 48, .p (.mov (.t 47)), (some (39, false))⟩,
    ⟨some 49, .p (.lad 1 1), (some (48, true))⟩,
    ⟨some 50, .p (.loadL 1 1 false (some (.t 49))), (some (48, true))⟩,
    ⟨some 51, .p (.mov (.t 11)), (some (48, true))⟩,
    ⟨some 52, .p (.iaddr none 4 (.t 50) (.t 51)), (some (48, true))⟩,
    ⟨some 53, .p (.faddr 3 (.t 52)), (some (48, true))⟩,
    ⟨some 54, .p (.loadC 1 false (.t 53)), (some (48, true))⟩,
    ⟨some 55, .p (.mov (.t 4)), (some (48, true))⟩,
    ⟨some 56, .p (.mov (.t 9)), (some (48, true))⟩,
    ⟨some 57, .p (.iaddr none 1 (.t 55) (.t 56)), (some (48, true))⟩,
    ⟨some 58, .p (.loadC 1 false (.t 57)), (some (48, true))⟩,
    ⟨some 59, .p (.mov (.t 11)), (some (48, true))⟩,
    ⟨some 60, .p (.iaddr none 1 (.t 58) (.t 59)), (some (48, true))⟩,
    ⟨some 61, .p (.loadC 1 false (.t 60)), (some (48, true))⟩,
    ⟨some 62, .p (.bin .gtr (.t 54) (.t 61)), (some (48, true))⟩,
    ⟨some 63, .p (.pick (.t 48) (.t 62) (.c (.bool false))), (some (39, false))⟩,
    ⟨some 64, .p (.pick (.t 39) (.c (.bool true)) (.t 63)), none⟩,
    ⟨some 10, .p (.mov (.t 64)), none⟩]))
  (.reg [⟨some 36, .p (.mov (.t 11)), none⟩,
    ⟨some 37, .p (.bin .add (.t 36) (.c (.int .i64 1))), none⟩,
    ⟨some 11, .p (.mov (.t 37)), none⟩])))
def g29_macadamref03_Liars_l1 : ACode := (.seq (.seq (.reg [⟨some 25, .p (.mov (.t 9)), none⟩,
    ⟨some 26, .p (.mov (.t 4)), none⟩,
    ⟨some 27, .p (.len (.t 26)), none⟩,
    ⟨some 28, .p (.bin .lss (.t 25) (.t 27)), none⟩])
  (.cond (.t 28) .skip (.exit 2)))
  (.seq (.block 3 (.seq (.reg [⟨some 10, .p (.mov (.c (.bool false))), none⟩])
  (.seq (.seq (.reg [⟨some 11, .p (.mov (.c (.int .i64 0))), none⟩])
  (.block 4 (.loop g29_macadamref03_Liars_l0)))
  (.reg [⟨some 65, .p (.mov (.t 8)), none⟩,
    ⟨some 66, .p (.mov (.t 65)), none⟩,
    ⟨some 67, .p (.mov (.t 10)), (some (66, true))⟩,
    ⟨some 68, .p (.pick (.t 66) (.t 67) (.c (.bool false))), none⟩,
    ⟨some 8, .p (.mov (.t 68)), none⟩]))))
  (.reg [⟨some 29, .p (.mov (.t 9)), none⟩,
    ⟨some 30, .p (.bin .add (.t 29) (.c (.int .i64 1))), none⟩,
    ⟨some 9, .p (.mov (.t 30)), none⟩])))
def g29_macadamref03_Liars_l2 : ACode := (.seq (.seq (.reg [⟨some 21, .p (.mov (.t 7)), none⟩,
    ⟨some 22, .p (.bin .lss (.t 21) (.c (.int .i64 4))), none⟩])
  (.cond (.t 22) .skip (.exit 0)))
  (.seq (.block 1 (.seq (.reg [⟨some 8, .p (.mov (.c (.bool true))), none⟩])
  (.seq (.seq (.reg [⟨some 9, .p (.mov (.c (.int .i64 0))), none⟩])
  (.block 2 (.loop g29_macadamref03_Liars_l1)))
  (.seq (.reg [⟨some 69, .p (.mov (.t 8)), none⟩])
  (.cond (.t 69) (.reg [⟨some 70, .p (.mov (.t 6)), none⟩,
    ⟨some 71, .p (.mov (.t 7)), none⟩,
    ⟨some 72, .p (.bslice 1 [.int .i64 0] 1 [(0, .t 71)]), none⟩,
    ⟨some 73, .h (.append 1 8 (.t 70) (.t 72)), none⟩,
    ⟨some 6, .p (.mov (.t 73)), none⟩]) .skip)))))
  (.reg [⟨some 23, .p (.mov (.t 7)), none⟩,
    ⟨some 24, .p (.bin .add (.t 23) (.c (.int .i64 1))), none⟩,
    ⟨some 7, .p (.mov (.t 24)), none⟩])))
def g29_macadamref03_Liars_c : ACode := (.seq (.reg [⟨some 1, .p (.boxL 1 (.t 0)), none⟩,
    ⟨some 2, .p (.mov (.c (.sl [] .exact))), none⟩,
    ⟨some 3, .p (.mov (.c (.int .i64 0))), none⟩])
  (.seq (.reg [⟨some 13, .p (.loadL 1 6 true none), none⟩,
    ⟨some 14, .calli (.f 70) [.t 13, .c (.bool true)], none⟩,
    ⟨some 12, .p (.mov (.t 14)), none⟩,
    ⟨some 15, .p (.extract (.t 12) 0), none⟩,
    ⟨some 16, .p (.extract (.t 12) 1), none⟩,
    ⟨some 4, .p (.mov (.t 15)), none⟩,
    ⟨some 5, .p (.mov (.t 16)), none⟩])
  (.seq (.seq (.reg [⟨some 17, .p (.mov (.t 5)), none⟩,
    ⟨some 18, .p (.bin .neq (.t 17) (.c (.int .i64 0))), none⟩])
  (.cond (.t 18) (.seq (.reg [⟨some 19, .p (.mov (.t 5)), none⟩,
    ⟨some 2, .p (.mov (.c (.sl [] .exact))), none⟩,
    ⟨some 3, .p (.mov (.t 19)), none⟩])
  .ret) .skip))
  (.seq (.reg [⟨some 20, .p (.bslice 1 [.int .i64 0] 0 []), none⟩,
    ⟨some 6, .p (.mov (.t 20)), none⟩])
  (.seq (.seq (.reg [⟨some 7, .p (.mov (.c (.int .i64 0))), none⟩])
  (.block 0 (.loop g29_macadamref03_Liars_l2)))
  (.seq (.reg [⟨some 74, .p (.mov (.t 6)), none⟩,
    ⟨some 2, .p (.mov (.t 74)), none⟩,
    ⟨some 3, .p (.mov (.c (.int .i64 0))), none⟩])
  .ret))))))
def g29_macadamref03_Liars : AFn := ⟨g29_macadamref03_Liars_c, [.t 2, .t 3], 1⟩

/-- macadam/macadamref00.Like -/
def g30_macadamref00_Like_l0 : ACode := (.seq (.seq (.reg [⟨some 12, .p (.mov (.t 5)), none⟩,
    ⟨some 13, .p (.mov (.t 12)), none⟩,
    ⟨some 14, .p (.mov (.t 6)), (some (13, true))⟩,
    ⟨some 15, .p (.mov (.t 0)), (some (13, true))⟩,
    ⟨some 16, .p (.len (.t 15)), (some (13, true))⟩,
    ⟨some 17, .p (.bin .lss (.t 14) (.t 16)), (some (13, true))⟩,
    ⟨some 18, .p (.pick (.t 13) (.t 17) (.c (.bool false))), none⟩])
  (.cond (.t 18) .skip (.exit 0)))
  (.seq (.block 1 (.reg [⟨some 21, .p (.mov (.t 0)), none⟩,
    ⟨some 22, .p (.mov (.t 6)), none⟩,
    ⟨some 23, .p (.iaddr none 1 (.t 21) (.t 22)), none⟩,
    ⟨some 24, .p (.loadC 1 false (.t 23)), none⟩,
    ⟨some 25, .p (.mov (.t 1)), none⟩,
    ⟨some 26, .p (.mov (.t 6)), none⟩,
    ⟨some 27, .p (.iaddr none 1 (.t 25) (.t 26)), none⟩,
    ⟨some 28, .p (.loadC 1 false (.t 27)), none⟩,
    ⟨some 29, .p (.bin .eql (.t 24) (.t 28)), none⟩,
    ⟨some 5, .p (.mov (.t 29)), none⟩]))
  (.reg [⟨some 19, .p (.mov (.t 6)), none⟩,
    ⟨some 20, .p (.bin .add (.t 19) (.c (.int .i64 1))), none⟩,
    ⟨some 6, .p (.mov (.t 20)), none⟩])))
def g30_macadamref00_Like_c : ACode := (.seq (.reg [⟨some 4, .p (.mov (.c (.bool false))), none⟩])
  (.seq (.reg [⟨some 7, .p (.mov (.t 0)), none⟩,
    ⟨some 8, .p (.len (.t 7)), none⟩,
    ⟨some 9, .p (.mov (.t 1)), none⟩,
    ⟨some 10, .p (.len (.t 9)), none⟩,
    ⟨some 11, .p (.bin .eql (.t 8) (.t 10)), none⟩,
    ⟨some 5, .p (.mov (.t 11)), none⟩])
  (.seq (.seq (.reg [⟨some 6, .p (.mov (.c (.int .i64 0))), none⟩])
  (.block 0 (.loop g30_macadamref00_Like_l0)))
  (.seq (.reg [⟨some 30, .p (.mov (.t 5)), none⟩,
    ⟨some 4, .p (.mov (.t 30)), none⟩])
  .ret))))
def g30_macadamref00_Like : AFn := ⟨g30_macadamref00_Like_c, [.t 4], 2⟩

/-- macadam/stone.Fits -/
def g31_stone_Fits_b0 : ACode := (.block 1 (.seq (.reg [⟨some 29, .p (.loadC 1 false (.t 4)), none⟩,
    ⟨some 30, .p (.lad 10 0), none⟩,
    ⟨some 31, .p (.iaddr (some 5) 1 (.t 30) (.t 29)), none⟩,
    ⟨some 32, .p (.loadL 10 1 false (some (.t 31))), none⟩,
    ⟨some 33, .p (.loadC 1 false (.t 5)), none⟩,
    ⟨some 34, .p (.bin .eql (.t 32) (.t 33)), none⟩])
  (.cond (.t 34) (.seq (.reg [⟨none, .h (.store 1 (.t 6) (.c (.bool true))), none⟩,
    ⟨none, .h (.store 1 (.t 7) (.c (.int .i64 0))), none⟩])
  .ret) .skip)))
def g31_stone_Fits_c : ACode := (.seq (.reg [⟨some 3, .p (.boxL 3 (.t 0)), none⟩,
    ⟨some 4, .p (.boxL 4 (.t 1)), none⟩,
    ⟨some 5, .p (.boxL 5 (.t 2)), none⟩,
    ⟨some 6, .h (.alloc [.bool false]), none⟩,
    ⟨some 7, .h (.alloc [.int .i64 0]), none⟩])
  (.seq (.reg [⟨some 12, .p (.loadL 3 6 true none), none⟩,
    ⟨some 13, .p (.loadL 3 6 true none), none⟩,
    ⟨some 14, .p (.loadL 4 1 false none), none⟩,
    ⟨some 15, .calli (.f 67) [.t 13, .t 14], none⟩,
    ⟨some 16, .p (.mov (.t 15)), none⟩,
    ⟨some 17, .p (.loadL 5 1 false none), (some (16, true))⟩,
    ⟨some 18, .calli (.f 59) [.t 17, .c (.int .i64 0), .c (.int .i64 6)], (some (16, true))⟩,
    ⟨some 19, .p (.pick (.t 16) (.t 18) (.c (.bool false))), none⟩,
    ⟨some 20, .calli (.f 66) [.t 12, .t 19], none⟩,
    ⟨some 11, .p (.mov (.t 20)), none⟩,
    ⟨some 21, .p (.extract (.t 11) 0), none⟩,
    ⟨some 22, .p (.extract (.t 11) 1), none⟩,
    ⟨some 8, .p (.allocL 8 [.sl [] .exact, .sl [] .exact, .int .i64 0, .int .i64 0, .int .i64 0, .int .i64 0, .nilf, .nilm]), none⟩,
    ⟨none, .p (.storeL 8 8 none (.t 21)), none⟩,
    ⟨some 9, .p (.mov (.t 22)), none⟩])
  (.seq (.seq (.reg [⟨some 23, .p (.mov (.t 9)), none⟩,
    ⟨some 24, .p (.bin .neq (.t 23) (.c (.int .i64 0))), none⟩])
  (.cond (.t 24) (.seq (.reg [⟨some 25, .p (.mov (.t 9)), none⟩,
    ⟨none, .h (.store 1 (.t 6) (.c (.bool false))), none⟩,
    ⟨none, .h (.store 1 (.t 7) (.t 25)), none⟩])
  .ret) .skip))
  (.seq (.seq (.reg [⟨some 26, .p (.loadL 8 8 true none), none⟩,
    ⟨some 27, .calli (.f 82) [.t 26], none⟩])
  (.block 0 (.frz [4, 5] (.rangeF (.t 27) [28] (.reg [⟨some 10, .p (.allocL 10 [.int .i64 0, .int .i64 0, .int .i64 0, .int .i64 0, .int .i64 0, .int .i64 0, .int .i64 0, .int .i64 0, .int .i64 0, .int .i64 0, .int .i64 0, .int .i64 0, .int .i64 0]), none⟩,
    ⟨none, .p (.storeL 10 13 none (.t 28)), none⟩]) g31_stone_Fits_b0))))
  (.seq (.reg [⟨none, .h (.store 1 (.t 6) (.c (.bool false))), none⟩,
    ⟨none, .h (.store 1 (.t 7) (.c (.int .i64 0))), none⟩])
  .ret)))))
def g31_stone_Fits : AFn := ⟨g31_stone_Fits_c, [.cell 6 1 false, .cell 7 1 false], 3⟩

/-- macadam/macadamref03.Fits -/
def g32_macadamref03_Fits_l0 : ACode := (.seq (.seq (.reg [⟨some 26, .p (.mov (.t 10)), none⟩,
    ⟨some 27, .p (.mov (.t 8)), none⟩,
    ⟨some 28, .p (.len (.t 27)), none⟩,
    ⟨some 29, .p (.bin .lss (.t 26) (.t 28)), none⟩])
  (.cond (.t 29) .skip (.exit 0)))
  (.seq (.block 1 (.seq (.reg [⟨some 32, .p (.mov (.t 8)), none⟩,
    ⟨some 33, .p (.mov (.t 10)), none⟩,
    ⟨some 34, .p (.iaddr none 1 (.t 32) (.t 33)), none⟩,
    ⟨some 35, .p (.loadC 1 false (.t 34)), none⟩,
    ⟨some 36, .p (.mov (.t 1)), none⟩,
    ⟨some 37, .p (.iaddr none 1 (.t 35) (.t 36)), none⟩,
    ⟨some 38, .p (.loadC 1 false (.t 37)), none⟩,
    ⟨some 39, .p (.mov (.t 2)), none⟩,
    ⟨some 40, .p (.bin .eql (.t 38) (.t 39)), none⟩])
  (.cond (.t 40) (.seq (.reg [⟨some 6, .p (.mov (.c (.bool true))), none⟩,
    ⟨some 7, .p (.mov (.c (.int .i64 0))), none⟩])
  .ret) .skip)))
  (.reg [⟨some 30, .p (.mov (.t 10)), none⟩,
    ⟨some 31, .p (.bin .add (.t 30) (.c (.int .i64 1))), none⟩,
    ⟨some 10, .p (.mov (.t 31)), none⟩])))
def g32_macadamref03_Fits_c : ACode := (.seq (.reg [⟨some 3, .p (.boxL 3 (.t 0)), none⟩,
    ⟨some 6, .p (.mov (.c (.bool false))), none⟩,
    ⟨some 7, .p (.mov (.c (.int .i64 0))), none⟩])
  (.seq (.reg [⟨some 12, .p (.loadL 3 6 true none), none⟩,
    ⟨some 13, .p (.loadL 3 6 true none), none⟩,
    ⟨some 14, .p (.mov (.t 1)), none⟩,
    ⟨some 15, .calli (.f 71) [.t 13, .t 14], none⟩,
    ⟨some 16, .p (.mov (.t 15)), none⟩,
    ⟨some 17, .p (.mov (.t 2)), (some (16, true))⟩,
    ⟨some 18, .calli (.f 63) [.t 17, .c (.int .i64 0), .c (.int .i64 6)], (some (16, true))⟩,
    ⟨some 19, .p (.pick (.t 16) (.t 18) (.c (.bool false))), none⟩,
    ⟨some 20, .calli (.f 70) [.t 12, .t 19], none⟩,
    ⟨some 11, .p (.mov (.t 20)), none⟩,
    ⟨some 21, .p (.extract (.t 11) 0), none⟩,
    ⟨some 22, .p (.extract (.t 11) 1), none⟩,
    ⟨some 8, .p (.mov (.t 21)), none⟩,
    ⟨some 9, .p (.mov (.t 22)), none⟩])
  (.seq (.seq (.reg [⟨some 23, .p (.mov (.t 9)), none⟩,
    ⟨some 24, .p (.bin .neq (.t 23) (.c (.int .i64 0))), none⟩])
  (.cond (.t 24) (.seq (.reg [⟨some 25, .p (.mov (.t 9)), none⟩,
    ⟨some 6, .p (.mov (.c (.bool false))), none⟩,
    ⟨some 7, .p (.mov (.t 25)), none⟩])
  .ret) .skip))
  (.seq (.seq (.reg [⟨some 10, .p (.mov (.c (.int .i64 0))), none⟩])
  (.block 0 (.loop g32_macadamref03_Fits_l0)))
  (.seq (.reg [⟨some 6, .p (.mov (.c (.bool false))), none⟩,
    ⟨some 7, .p (.mov (.c (.int .i64 0))), none⟩])
  .ret)))))
def g32_macadamref03_Fits : AFn := ⟨g32_macadamref03_Fits_c, [.t 6, .t 7], 3⟩

/-- macadam/stone.Wrong -/
def g33_stone_Wrong_l0 : ACode := (.seq (.reg [⟨some 20, .p (.bin .lss (.t 19) (.t 18)), none⟩])
  (.seq (.cond (.t 20) .skip (.exit 0))
  (.seq (.block 1 (.seq (.reg [⟨some 21, .p (.mov (.t 19)), none⟩,
    ⟨some 6, .p (.mov (.t 21)), none⟩])
  (.seq (.reg [⟨some 23, .h (.load 1 false (.t 5)), none⟩,
    ⟨some 24, .p (.mov (.t 6)), none⟩,
    ⟨some 25, .call (.t 23) [.c (.sl [] .exact), .t 24], none⟩,
    ⟨some 22, .p (.mov (.t 25)), none⟩,
    ⟨some 26, .p (.extract (.t 22) 0), none⟩,
    ⟨some 27, .p (.extract (.t 22) 1), none⟩,
    ⟨some 7, .p (.mov (.t 26)), none⟩,
    ⟨some 8, .p (.mov (.t 27)), none⟩])
  (.seq (.reg [⟨some 28, .p (.mov (.t 8)), none⟩])
  (.cond (.t 28) (.seq (.reg [⟨some 29, .p (.mov (.t 7)), none⟩,
    ⟨some 30, .p (.mov (.t 7)), none⟩,
    ⟨some 31, .p (.len (.t 30)), none⟩,
    ⟨some 32, .p (.mov (.t 7)), none⟩,
    ⟨some 33, .p (.len (.t 32)), none⟩,
    ⟨some 34, .p (.slice 1 (.t 29) none (some (.t 31)) (some (.t 33))), none⟩,
    ⟨some 2, .p (.mov (.t 34)), none⟩,
    ⟨some 3, .p (.mov (.c (.int .i64 0))), none⟩])
  .ret) .skip)))))
  (.reg [⟨some 35, .p (.bin .add (.t 19) (.c (.int .i64 1))), none⟩,
    ⟨some 19, .p (.mov (.t 35)), none⟩]))))
def g33_stone_Wrong_c : ACode := (.seq (.reg [⟨some 1, .p (.boxL 1 (.t 0)), none⟩,
    ⟨some 2, .p (.mov (.c (.sl [] .exact))), none⟩,
    ⟨some 3, .p (.mov (.c (.int .i64 0))), none⟩])
  (.seq (.seq (.reg [⟨some 9, .p (.loadL 1 6 true none), none⟩,
    ⟨some 10, .calli (.f 17) [.t 9], none⟩,
    ⟨some 4, .p (.mov (.t 10)), none⟩])
  (.seq (.reg [⟨some 11, .p (.mov (.t 4)), none⟩,
    ⟨some 12, .p (.bin .neq (.t 11) (.c (.int .i64 0))), none⟩])
  (.cond (.t 12) (.seq (.reg [⟨some 13, .p (.mov (.t 4)), none⟩,
    ⟨some 2, .p (.mov (.c (.sl [] .exact))), none⟩,
    ⟨some 3, .p (.mov (.t 13)), none⟩])
  .ret) .skip)))
  (.seq (.reg [⟨some 5, .h (.alloc [.nilf]), none⟩])
  (.seq (.frz [1] (.reg [⟨some 14, .p (.mkfn 84 [] [.t 1, .t 5]), none⟩,
    ⟨none, .h (.store 1 (.t 5) (.t 14)), none⟩]))
  (.seq (.seq (.reg [⟨some 15, .p (.lad 1 1), none⟩,
    ⟨some 16, .p (.loadL 1 1 false (some (.t 15))), none⟩,
    ⟨some 17, .p (.len (.t 16)), none⟩,
    ⟨some 18, .p (.bin .add (.t 17) (.c (.int .i64 1))), none⟩,
    ⟨some 19, .p (.mov (.c (.int .i64 0))), none⟩])
  (.block 0 (.loop g33_stone_Wrong_l0)))
  (.seq (.reg [⟨some 2, .p (.mov (.c (.sl [] .exact))), none⟩,
    ⟨some 3, .p (.mov (.c (.int .i64 32))), none⟩])
  .ret))))))
def g33_stone_Wrong : AFn := ⟨g33_stone_Wrong_c, [.t 2, .t 3], 1⟩

/-- macadam/macadamref03.Wrong -/
def g34_macadamref03_Wrong_l0 : ACode := (.seq (.seq (.reg [⟨some 29, .p (.mov (.t 7)), none⟩,
    ⟨some 30, .p (.mov (.t 5)), none⟩,
    ⟨some 31, .p (.bin .shl (.c (.int .i64 1)) (.t 30)), none⟩,
    ⟨some 32, .p (.bin .lss (.t 29) (.t 31)), none⟩])
  (.cond (.t 32) .skip (.exit 0)))
  (.seq (.block 1 (.seq (.reg [⟨some 35, .p (.mov (.t 7)), none⟩,
    ⟨some 36, .p (.mov (.t 5)), none⟩,
    ⟨some 37, .calli (.f 48) [.t 35, .t 36], none⟩,
    ⟨some 8, .p (.mov (.t 37)), none⟩])
  (.seq (.reg [⟨some 38, .p (.mov (.t 8)), none⟩,
    ⟨some 39, .p (.mov (.t 6)), none⟩,
    ⟨some 40, .calli (.f 50) [.t 38, .t 39], none⟩,
    ⟨some 41, .p (.mov (.t 40)), none⟩,
    ⟨some 42, .p (.loadL 1 6 true none), (some (41, true))⟩,
    ⟨some 43, .p (.mov (.t 7)), (some (41, true))⟩,
    ⟨some 44, .calli (.f 58) [.t 42, .t 43, .c (.sl [] .exact)], (some (41, true))⟩,
    ⟨some 45, .p (.len (.t 44)), (some (41, true))⟩,
    ⟨some 46, .p (.bin .gtr (.t 45) (.c (.int .i64 0))), (some (41, true))⟩,
    ⟨some 47, .p (.pick (.t 41) (.t 46) (.c (.bool false))), none⟩])
  (.cond (.t 47) (.reg [⟨some 48, .p (.mov (.t 8)), none⟩,
    ⟨some 6, .p (.mov (.t 48)), none⟩]) .skip))))
  (.reg [⟨some 33, .p (.mov (.t 7)), none⟩,
    ⟨some 34, .p (.bin .add (.t 33) (.c (.int .i64 1))), none⟩,
    ⟨some 7, .p (.mov (.t 34)), none⟩])))
def g34_macadamref03_Wrong_c : ACode := (.seq (.reg [⟨some 1, .p (.boxL 1 (.t 0)), none⟩,
    ⟨some 2, .p (.mov (.c (.sl [] .exact))), none⟩,
    ⟨some 3, .p (.mov (.c (.int .i64 0))), none⟩])
  (.seq (.seq (.reg [⟨some 9, .p (.loadL 1 6 true none), none⟩,
    ⟨some 10, .calli (.f 18) [.t 9], none⟩,
    ⟨some 4, .p (.mov (.t 10)), none⟩])
  (.seq (.reg [⟨some 11, .p (.mov (.t 4)), none⟩,
    ⟨some 12, .p (.bin .neq (.t 11) (.c (.int .i64 0))), none⟩])
  (.cond (.t 12) (.seq (.reg [⟨some 13, .p (.mov (.t 4)), none⟩,
    ⟨some 2, .p (.mov (.c (.sl [] .exact))), none⟩,
    ⟨some 3, .p (.mov (.t 13)), none⟩])
  .ret) .skip)))
  (.seq (.reg [⟨some 14, .p (.lad 1 1), none⟩,
    ⟨some 15, .p (.loadL 1 1 false (some (.t 14))), none⟩,
    ⟨some 16, .p (.len (.t 15)), none⟩,
    ⟨some 5, .p (.mov (.t 16)), none⟩])
  (.seq (.seq (.reg [⟨some 17, .p (.loadL 1 6 true none), none⟩,
    ⟨some 18, .p (.mov (.t 5)), none⟩,
    ⟨some 19, .p (.bin .shl (.c (.int .i64 1)) (.t 18)), none⟩,
    ⟨some 20, .p (.bin .sub (.t 19) (.c (.int .i64 1))), none⟩,
    ⟨some 21, .calli (.f 58) [.t 17, .t 20, .c (.sl [] .exact)], none⟩,
    ⟨some 22, .p (.len (.t 21)), none⟩,
    ⟨some 23, .p (.bin .eql (.t 22) (.c (.int .i64 0))), none⟩])
  (.cond (.t 23) (.seq (.reg [⟨some 2, .p (.mov (.c (.sl [] .exact))), none⟩,
    ⟨some 3, .p (.mov (.c (.int .i64 32))), none⟩])
  .ret) .skip))
  (.seq (.reg [⟨some 24, .p (.mov (.t 5)), none⟩,
    ⟨some 25, .p (.bin .shl (.c (.int .i64 1)) (.t 24)), none⟩,
    ⟨some 26, .p (.bin .sub (.t 25) (.c (.int .i64 1))), none⟩,
    ⟨some 27, .p (.mov (.t 5)), none⟩,
    ⟨some 28, .calli (.f 48) [.t 26, .t 27], none⟩,
    ⟨some 6, .p (.mov (.t 28)), none⟩])
  (.seq (.seq (.reg [⟨some 7, .p (.mov (.c (.int .i64 0))), none⟩])
  (.block 0 (.loop g34_macadamref03_Wrong_l0)))
  (.seq (.reg [⟨some 49, .p (.mov (.t 6)), none⟩,
    ⟨some 2, .p (.mov (.t 49)), none⟩,
    ⟨some 3, .p (.mov (.c (.int .i64 0))), none⟩])
  .ret)))))))
def g34_macadamref03_Wrong : AFn := ⟨g34_macadamref03_Wrong_c, [.t 2, .t 3], 1⟩

/-- macadam/macadamlaw03.sound -/
def g35_macadamlaw03_sound_l0 : ACode := (.seq (.seq (.reg [⟨some 23, .p (.mov (.t 3)), none⟩,
    ⟨some 24, .p (.mov (.t 23)), none⟩,
    ⟨some 25, .p (.mov (.t 4)), (some (24, true))⟩,
    ⟨some 26, .p (.lad 1 0), (some (24, true))⟩,
    ⟨some 27, .p (.loadL 1 1 false (some (.t 26))), (some (24, true))⟩,
    ⟨some 28, .p (.len (.t 27)), (some (24, true))⟩,
    ⟨some 29, .p (.bin .lss (.t 25) (.t 28)), (some (24, true))⟩,
    ⟨some 30, .p (.pick (.t 24) (.t 29) (.c (.bool false))), none⟩])
  (.cond (.t 30) .skip (.exit 0)))
  (.seq (.block 1 (.reg [⟨some 33, .p (.lad 1 0), none⟩,
    ⟨some 34, .p (.loadL 1 1 false (some (.t 33))), none⟩,
    ⟨some 35, .p (.mov (.t 4)), none⟩,
    ⟨some 36, .p (.iaddr none 4 (.t 34) (.t 35)), none⟩,
    ⟨some 37, .p (.faddr 0 (.t 36)), none⟩,
    ⟨some 38, .p (.loadC 2 true (.t 37)), none⟩,
    ⟨some 39, .calli (.f 42) [.t 38, .c (.int .i64 0), .c (.int .i64 60), .c (.int .i64 4)], none⟩,
    ⟨some 40, .p (.mov (.t 39)), none⟩,
    ⟨some 41, .p (.lad 1 0), (some (40, true))⟩,
    ⟨some 42, .p (.loadL 1 1 false (some (.t 41))), (some (40, true))⟩,
    ⟨some 43, .p (.mov (.t 4)), (some (40, true))⟩,
    ⟨some 44, .p (.iaddr none 4 (.t 42) (.t 43)), (some (40, true))⟩,
    ⟨some 45, .p (.faddr 2 (.t 44)), (some (40, true))⟩,
    ⟨some 46, .p (.loadC 2 true (.t 45)), (some (40, true))⟩,
    ⟨some 47, .calli (.f 42) [.t 46, .c (.int .i64 0), .c (.int .i64 99), .c (.int .i64 99)], (some (40, true))⟩,
    ⟨some 48, .p (.pick (.t 40) (.t 47) (.c (.bool false))), none⟩,
    ⟨some 3, .p (.mov (.t 48)), none⟩]))
  (.reg [⟨some 31, .p (.mov (.t 4)), none⟩,
    ⟨some 32, .p (.bin .add (.t 31) (.c (.int .i64 1))), none⟩,
    ⟨some 4, .p (.mov (.t 32)), none⟩])))
def g35_macadamlaw03_sound_l1 : ACode := (.seq (.seq (.reg [⟨some 49, .p (.mov (.t 3)), none⟩,
    ⟨some 50, .p (.mov (.t 49)), none⟩,
    ⟨some 51, .p (.mov (.t 5)), (some (50, true))⟩,
    ⟨some 52, .p (.lad 1 1), (some (50, true))⟩,
    ⟨some 53, .p (.loadL 1 1 false (some (.t 52))), (some (50, true))⟩,
    ⟨some 54, .p (.len (.t 53)), (some (50, true))⟩,
    ⟨some 55, .p (.bin .lss (.t 51) (.t 54)), (some (50, true))⟩,
    ⟨some 56, .p (.pick (.t 50) (.t 55) (.c (.bool false))), none⟩])
  (.cond (.t 56) .skip (.exit 2)))
  (.seq (.block 3 (.seq (.reg [⟨some 59, .p (.lad 1 1), none⟩,
    ⟨some 60, .p (.loadL 1 1 false (some (.t 59))), none⟩,
    ⟨some 61, .p (.mov (.t 5)), none⟩,
    ⟨some 62, .p (.iaddr none 4 (.t 60) (.t 61)), none⟩,
    ⟨some 63, .p (.loadC 4 true (.t 62)), none⟩,
    ⟨some 6, .p (.allocL 6 [.int .i64 0, .int .i64 0, .int .i64 0, .int .i64 0]), none⟩,
    ⟨none, .p (.storeL 6 4 none (.t 63)), none⟩])
  (.reg [⟨some 64, .p (.lad 6 0), none⟩,
    ⟨some 65, .p (.loadL 6 1 false (some (.t 64))), none⟩,
    ⟨some 66, .p (.lad 1 0), none⟩,
    ⟨some 67, .p (.loadL 1 1 false (some (.t 66))), none⟩,
    ⟨some 68, .p (.len (.t 67)), none⟩,
    ⟨some 69, .p (.bin .sub (.t 68) (.c (.int .i64 1))), none⟩,
    ⟨some 70, .calli (.f 63) [.t 65, .c (.int .i64 (-1)), .t 69], none⟩,
    ⟨some 71, .p (.mov (.t 70)), none⟩,
    ⟨some 72, .p (.lad 6 1), (some (71, true))⟩,
    ⟨some 73, .p (.loadL 6 1 false (some (.t 72))), (some (71, true))⟩,
    ⟨some 74, .p (.lad 1 0), (some (71, true))⟩,
    ⟨some 75, .p (.loadL 1 1 false (some (.t 74))), (some (71, true))⟩,
    ⟨some 76, .p (.len (.t 75)), (some (71, true))⟩,
    ⟨some 77, .p (.bin .sub (.t 76) (.c (.int .i64 1))), (some (71, true))⟩,
    ⟨some 78, .calli (.f 63) [.t 73, .c (.int .i64 (-1)), .t 77], (some (71, true))⟩,
    ⟨some 79, .p (.pick (.t 71) (.t 78) (.c (.bool false))), none⟩,
    ⟨some 80, .p (.mov (.t 79)), none⟩,
    ⟨some 81, .p (.lad 6 2), (some (80, true))⟩,
    ⟨some 82, .p (.loadL 6 1 false (some (.t 81))), (some (80, true))⟩,
    ⟨some 83, .calli (.f 63) [.t 82, .c (.int .i64 0), .c (.int .i64 3)], (some (80, true))⟩,
    ⟨some 84, .p (.pick (.t 80) (.t 83) (.c (.bool false))), none⟩,
    ⟨some 85, .p (.mov (.t 84)), none⟩,
    ⟨some 86, .p (.lad 6 3), (some (85, true))⟩,
    ⟨some 87, .p (.loadL 6 1 false (some (.t 86))), (some (85, true))⟩,
    ⟨some 88, .calli (.f 63) [.t 87, .c (.int .i64 0), .c (.int .i64 6)], (some (85, true))⟩,
    ⟨some 89, .p (.pick (.t 85) (.t 88) (.c (.bool false))), none⟩,
    ⟨some 3, .p (.mov (.t 89)), none⟩])))
  (.reg [⟨some 57, .p (.mov (.t 5)), none⟩,
    ⟨some 58, .p (.bin .add (.t 57) (.c (.int .i64 1))), none⟩,
    ⟨some 5, .p (.mov (.t 58)), none⟩])))
def g35_macadamlaw03_sound_l2 : ACode := (.seq (.seq (.reg [⟨some 90, .p (.mov (.t 3)), none⟩,
    ⟨some 91, .p (.mov (.t 90)), none⟩,
    ⟨some 92, .p (.mov (.t 7)), (some (91, true))⟩,
    ⟨some 93, .p (.bin .lss (.t 92) (.c (.int .i64 4))), (some (91, true))⟩,
    ⟨some 94, .p (.pick (.t 91) (.t 93) (.c (.bool false))), none⟩])
  (.cond (.t 94) .skip (.exit 4)))
  (.seq (.block 5 (.reg [⟨some 97, .p (.mov (.t 7)), none⟩,
    ⟨some 98, .p (.lad 1 2), none⟩,
    ⟨some 99, .p (.iaddr (some 4) 1 (.t 98) (.t 97)), none⟩,
    ⟨some 100, .p (.loadL 1 1 false (some (.t 99))), none⟩,
    ⟨some 101, .calli (.f 63) [.t 100, .c (.int .i64 0), .c (.int .i64 2)], none⟩,
    ⟨some 3, .p (.mov (.t 101)), none⟩]))
  (.reg [⟨some 95, .p (.mov (.t 7)), none⟩,
    ⟨some 96, .p (.bin .add (.t 95) (.c (.int .i64 1))), none⟩,
    ⟨some 7, .p (.mov (.t 96)), none⟩])))
def g35_macadamlaw03_sound_c : ACode := (.seq (.reg [⟨some 1, .p (.boxL 1 (.t 0)), none⟩,
    ⟨some 2, .p (.mov (.c (.bool false))), none⟩])
  (.seq (.reg [⟨some 8, .p (.loadL 1 6 true none), none⟩,
    ⟨some 9, .calli (.f 17) [.t 8], none⟩,
    ⟨some 10, .p (.bin .eql (.t 9) (.c (.int .i64 0))), none⟩,
    ⟨some 11, .p (.mov (.t 10)), none⟩,
    ⟨some 12, .p (.lad 1 0), (some (11, true))⟩,
    ⟨some 13, .p (.loadL 1 1 false (some (.t 12))), (some (11, true))⟩,
    ⟨some 14, .p (.len (.t 13)), (some (11, true))⟩,
    ⟨some 15, .calli (.f 63) [.t 14, .c (.int .i64 1), .c (.int .i64 4)], (some (11, true))⟩,
    ⟨some 16, .p (.pick (.t 11) (.t 15) (.c (.bool false))), none⟩,
    ⟨some 17, .p (.mov (.t 16)), none⟩,
    ⟨some 18, .p (.lad 1 1), (some (17, true))⟩,
    ⟨some 19, .p (.loadL 1 1 false (some (.t 18))), (some (17, true))⟩,
    ⟨some 20, .p (.len (.t 19)), (some (17, true))⟩,
    ⟨some 21, .p (.bin .leq (.t 20) (.c (.int .i64 5))), (some (17, true))⟩,
    ⟨some 22, .p (.pick (.t 17) (.t 21) (.c (.bool false))), none⟩,
    ⟨some 3, .p (.mov (.t 22)), none⟩])
  (.seq (.seq (.reg [⟨some 4, .p (.mov (.c (.int .i64 0))), none⟩])
  (.block 0 (.loop g35_macadamlaw03_sound_l0)))
  (.seq (.seq (.reg [⟨some 5, .p (.mov (.c (.int .i64 0))), none⟩])
  (.block 2 (.loop g35_macadamlaw03_sound_l1)))
  (.seq (.seq (.reg [⟨some 7, .p (.mov (.c (.int .i64 0))), none⟩])
  (.block 4 (.loop g35_macadamlaw03_sound_l2)))
  (.seq (.reg [⟨some 102, .p (.mov (.t 3)), none⟩,
    ⟨some 2, .p (.mov (.t 102)), none⟩])
  .ret))))))
def g35_macadamlaw03_sound : AFn := ⟨g35_macadamlaw03_sound_c, [.t 2], 1⟩

/-- macadam/macadamlaw03.truly -/
def g36_macadamlaw03_truly_l0 : ACode := (.seq (.seq (.reg [⟨some 13, .p (.mov (.t 7)), none⟩,
    ⟨some 14, .p (.lad 2 0), none⟩,
    ⟨some 15, .p (.loadL 2 1 false (some (.t 14))), none⟩,
    ⟨some 16, .p (.len (.t 15)), none⟩,
    ⟨some 17, .p (.bin .lss (.t 13) (.t 16)), none⟩])
  (.cond (.t 17) .skip (.exit 0)))
  (.seq (.block 1 (.reg [⟨some 20, .p (.mov (.t 6)), none⟩,
    ⟨some 21, .p (.lad 2 0), none⟩,
    ⟨some 22, .p (.loadL 2 1 false (some (.t 21))), none⟩,
    ⟨some 23, .p (.mov (.t 7)), none⟩,
    ⟨some 24, .p (.iaddr none 4 (.t 22) (.t 23)), none⟩,
    ⟨some 25, .p (.faddr 0 (.t 24)), none⟩,
    ⟨some 26, .p (.loadC 2 true (.t 25)), none⟩,
    ⟨some 27, .p (.mov (.t 1)), none⟩,
    ⟨some 28, .p (.mov (.t 7)), none⟩,
    ⟨some 29, .calli (.f 86) [.t 27, .t 28], none⟩,
    ⟨some 30, .calli (.f 85) [.t 26, .t 29], none⟩,
    ⟨some 31, .p (.bslice 1 [.int .i64 0] 1 [(0, .t 30)]), none⟩,
    ⟨some 32, .h (.appendM 1 8 (.t 20) (.t 31)), none⟩,
    ⟨some 6, .p (.mov (.t 32)), none⟩]))
  (.reg [⟨some 18, .p (.mov (.t 7)), none⟩,
    ⟨some 19, .p (.bin .add (.t 18) (.c (.int .i64 1))), none⟩,
    ⟨some 7, .p (.mov (.t 19)), none⟩])))
def g36_macadamlaw03_truly_l1 : ACode := (.seq (.seq (.reg [⟨some 41, .p (.mov (.t 8)), none⟩,
    ⟨some 42, .p (.lad 2 1), none⟩,
    ⟨some 43, .p (.loadL 2 1 false (some (.t 42))), none⟩,
    ⟨some 44, .p (.len (.t 43)), none⟩,
    ⟨some 45, .p (.bin .lss (.t 41) (.t 44)), none⟩])
  (.cond (.t 45) .skip (.exit 2)))
  (.seq (.block 3 (.seq (.reg [⟨some 48, .p (.lad 2 1), none⟩,
    ⟨some 49, .p (.loadL 2 1 false (some (.t 48))), none⟩,
    ⟨some 50, .p (.mov (.t 8)), none⟩,
    ⟨some 51, .p (.iaddr none 4 (.t 49) (.t 50)), none⟩,
    ⟨some 52, .p (.loadC 4 true (.t 51)), none⟩,
    ⟨some 53, .p (.mov (.t 1)), none⟩,
    ⟨some 54, .p (.mov (.t 8)), none⟩,
    ⟨some 55, .p (.bin .add (.t 54) (.c (.int .i64 1))), none⟩,
    ⟨some 56, .calli (.f 86) [.t 53, .t 55], none⟩,
    ⟨some 57, .calli (.f 38) [.t 56, .c (.int .i64 7)], none⟩,
    ⟨some 9, .p (.allocL 9 [.int .i64 0, .int .i64 0, .int .i64 0, .int .i64 0]), none⟩,
    ⟨none, .p (.storeL 9 4 none (.t 52)), none⟩,
    ⟨some 10, .p (.mov (.t 57)), none⟩])
  (.seq (.seq (.reg [⟨some 58, .p (.lad 9 0), none⟩,
    ⟨some 59, .p (.loadL 9 1 false (some (.t 58))), none⟩,
    ⟨some 60, .p (.bin .geq (.t 59) (.c (.int .i64 0))), none⟩])
  (.cond (.t 60) (.seq (.reg [⟨some 61, .p (.mov (.t 10)), none⟩,
    ⟨some 62, .p (.mov (.t 6)), none⟩,
    ⟨some 63, .p (.lad 9 0), none⟩,
    ⟨some 64, .p (.loadL 9 1 false (some (.t 63))), none⟩,
    ⟨some 65, .p (.iaddr none 1 (.t 62) (.t 64)), none⟩,
    ⟨some 66, .h (.load 1 false (.t 65)), none⟩,
    ⟨some 67, .p (.mn [.t 61, .t 66]), none⟩,
    ⟨some 10, .p (.mov (.t 67)), none⟩])
  (.reg [⟨some 68, .p (.mov (.t 6)), none⟩,
    ⟨some 69, .p (.lad 9 0), none⟩,
    ⟨some 70, .p (.loadL 9 1 false (some (.t 69))), none⟩,
    ⟨some 71, .p (.iaddr none 1 (.t 68) (.t 70)), none⟩,
    ⟨some 72, .h (.load 1 false (.t 71)), none⟩,
    ⟨some 73, .p (.mov (.t 10)), none⟩,
    ⟨some 74, .p (.bin .sub (.t 72) (.t 73)), none⟩,
    ⟨some 75, .p (.iaddr none 1 (.t 68) (.t 70)), none⟩,
    ⟨none, .h (.store 1 (.t 75) (.t 74)), none⟩])) .skip))
  (.seq (.seq (.reg [⟨some 76, .p (.lad 9 1), none⟩,
    ⟨some 77, .p (.loadL 9 1 false (some (.t 76))), none⟩,
    ⟨some 78, .p (.bin .geq (.t 77) (.c (.int .i64 0))), none⟩])
  (.cond (.t 78) (.reg [⟨some 79, .p (.mov (.t 6)), none⟩,
    ⟨some 80, .p (.lad 9 1), none⟩,
    ⟨some 81, .p (.loadL 9 1 false (some (.t 80))), none⟩,
    ⟨some 82, .p (.iaddr none 1 (.t 79) (.t 81)), none⟩,
    ⟨some 83, .h (.load 1 false (.t 82)), none⟩,
    ⟨some 84, .p (.mov (.t 10)), none⟩,
    ⟨some 85, .p (.bin .add (.t 83) (.t 84)), none⟩,
    ⟨some 86, .p (.iaddr none 1 (.t 79) (.t 81)), none⟩,
    ⟨none, .h (.store 1 (.t 86) (.t 85)), none⟩]) .skip))
  (.reg [⟨some 87, .p (.lad 5 1), none⟩,
    ⟨some 88, .p (.loadL 5 1 false (some (.t 87))), none⟩,
    ⟨some 89, .p (.mov (.t 10)), none⟩,
    ⟨some 90, .p (.bslice 1 [.int .i64 0] 1 [(0, .t 89)]), none⟩,
    ⟨some 91, .h (.append 1 8 (.t 88) (.t 90)), none⟩,
    ⟨some 92, .p (.lad 5 0), none⟩,
    ⟨some 93, .p (.loadL 5 1 false (some (.t 92))), none⟩,
    ⟨some 94, .p (.bslice 1 [.int .i64 0] 0 []), none⟩,
    ⟨some 95, .p (.mov (.t 6)), none⟩,
    ⟨some 96, .h (.appendC 1 8 (.t 94) (.t 95)), none⟩,
    ⟨some 97, .p (.bslice 1 [.sl [] .exact] 1 [(0, .t 96)]), none⟩,
    ⟨some 98, .h (.append 1 24 (.t 93) (.t 97)), none⟩,
    ⟨some 99, .p (.lad 5 1), none⟩,
    ⟨none, .p (.storeL 5 1 (some (.t 99)) (.t 91)), none⟩,
    ⟨some 100, .p (.lad 5 0), none⟩,
    ⟨none, .p (.storeL 5 1 (some (.t 100)) (.t 98)), none⟩])))))
  (.reg [⟨some 46, .p (.mov (.t 8)), none⟩,
    ⟨some 47, .p (.bin .add (.t 46) (.c (.int .i64 1))), none⟩,
    ⟨some 8, .p (.mov (.t 47)), none⟩])))
def g36_macadamlaw03_truly_c : ACode := (.seq (.reg [⟨some 2, .p (.boxL 2 (.t 0)), none⟩,
    ⟨some 4, .p (.allocL 4 [.sl [] .exact, .sl [] .exact]), none⟩])
  (.seq (.reg [⟨some 11, .p (.build [.sl [] .exact, .sl [] .exact] []), none⟩,
    ⟨some 12, .p (.bslice 1 [.int .i64 0] 0 []), none⟩,
    ⟨some 5, .p (.allocL 5 [.sl [] .exact, .sl [] .exact]), none⟩,
    ⟨none, .p (.storeL 5 2 none (.t 11)), none⟩,
    ⟨some 6, .p (.mov (.t 12)), none⟩])
  (.seq (.seq (.reg [⟨some 7, .p (.mov (.c (.int .i64 0))), none⟩])
  (.block 0 (.loop g36_macadamlaw03_truly_l0)))
  (.seq (.reg [⟨some 33, .p (.lad 5 0), none⟩,
    ⟨some 34, .p (.loadL 5 1 false (some (.t 33))), none⟩,
    ⟨some 35, .p (.bslice 1 [.int .i64 0] 0 []), none⟩,
    ⟨some 36, .p (.mov (.t 6)), none⟩,
    ⟨some 37, .h (.appendC 1 8 (.t 35) (.t 36)), none⟩,
    ⟨some 38, .p (.bslice 1 [.sl [] .exact] 1 [(0, .t 37)]), none⟩,
    ⟨some 39, .h (.append 1 24 (.t 34) (.t 38)), none⟩,
    ⟨some 40, .p (.lad 5 0), none⟩,
    ⟨none, .p (.storeL 5 1 (some (.t 40)) (.t 39)), none⟩])
  (.seq (.seq (.reg [⟨some 8, .p (.mov (.c (.int .i64 0))), none⟩])
  (.block 2 (.loop g36_macadamlaw03_truly_l1)))
  (.seq (.reg [⟨some 101, .p (.loadL 5 2 true none), none⟩,
    ⟨none, .p (.storeL 4 2 none (.t 101)), none⟩])
  .ret))))))
def g36_macadamlaw03_truly : AFn := ⟨g36_macadamlaw03_truly_c, [.cellL 4 2 true], 2⟩

/-- macadam/macadamlaw03.rightly -/
def g37_macadamlaw03_rightly_l0 : ACode := (.seq (.seq (.reg [⟨some 17, .p (.mov (.t 8)), none⟩,
    ⟨some 18, .p (.lad 3 0), none⟩,
    ⟨some 19, .p (.loadL 3 1 false (some (.t 18))), none⟩,
    ⟨some 20, .p (.len (.t 19)), none⟩,
    ⟨some 21, .p (.bin .lss (.t 17) (.t 20)), none⟩])
  (.cond (.t 21) .skip (.exit 0)))
  (.seq (.block 1 (.seq (.reg [⟨some 24, .p (.lad 3 0), none⟩,
    ⟨some 25, .p (.loadL 3 1 false (some (.t 24))), none⟩,
    ⟨some 26, .p (.mov (.t 8)), none⟩,
    ⟨some 27, .p (.iaddr none 4 (.t 25) (.t 26)), none⟩,
    ⟨some 28, .p (.loadC 4 true (.t 27)), none⟩,
    ⟨some 29, .p (.lad 4 0), none⟩,
    ⟨some 30, .p (.loadL 4 1 false (some (.t 29))), none⟩,
    ⟨some 31, .p (.lad 3 1), none⟩,
    ⟨some 32, .p (.loadL 3 1 false (some (.t 31))), none⟩,
    ⟨some 33, .p (.len (.t 32)), none⟩,
    ⟨some 34, .p (.iaddr none 1 (.t 30) (.t 33)), none⟩,
    ⟨some 35, .p (.loadC 1 false (.t 34)), none⟩,
    ⟨some 36, .p (.mov (.t 8)), none⟩,
    ⟨some 37, .p (.iaddr none 1 (.t 35) (.t 36)), none⟩,
    ⟨some 38, .p (.loadC 1 false (.t 37)), none⟩,
    ⟨some 9, .p (.allocL 9 [.int .i64 0, .int .i64 0, .int .i64 0, .int .i64 0]), none⟩,
    ⟨none, .p (.storeL 9 4 none (.t 28)), none⟩,
    ⟨some 10, .p (.mov (.t 38)), none⟩])
  (.seq (.reg [⟨some 39, .p (.lad 9 2), none⟩,
    ⟨some 40, .p (.faddr 1 (.t 39)), none⟩,
    ⟨some 41, .p (.loadL 9 1 false (some (.t 40))), none⟩,
    ⟨some 42, .p (.lad 9 2), none⟩,
    ⟨some 43, .p (.faddr 0 (.t 42)), none⟩,
    ⟨some 44, .p (.loadL 9 1 false (some (.t 43))), none⟩,
    ⟨some 45, .p (.bin .sub (.t 41) (.t 44)), none⟩,
    ⟨some 11, .p (.mov (.t 45)), none⟩])
  (.seq (.reg [⟨some 46, .p (.mov (.t 10)), none⟩,
    ⟨some 47, .p (.mov (.t 2)), none⟩,
    ⟨some 48, .p (.mov (.t 8)), none⟩,
    ⟨some 49, .calli (.f 86) [.t 47, .t 48], none⟩,
    ⟨some 50, .p (.mov (.t 11)), none⟩,
    ⟨some 51, .p (.bin .add (.t 50) (.c (.int .i64 1))), none⟩,
    ⟨some 52, .calli (.f 38) [.t 49, .t 51], none⟩,
    ⟨some 53, .p (.bin .sub (.t 46) (.t 52)), none⟩,
    ⟨some 54, .p (.mx [.c (.int .i64 0), .t 53]), none⟩,
    ⟨some 55, .p (.lad 9 2), none⟩,
    ⟨some 56, .p (.faddr 0 (.t 55)), none⟩,
    ⟨none, .p (.storeL 9 1 (some (.t 56)) (.t 54)), none⟩])
  (.seq (.reg [⟨some 57, .p (.lad 9 2), none⟩,
    ⟨some 58, .p (.faddr 0 (.t 57)), none⟩,
    ⟨some 59, .p (.loadL 9 1 false (some (.t 58))), none⟩,
    ⟨some 60, .p (.mov (.t 11)), none⟩,
    ⟨some 61, .p (.bin .add (.t 59) (.t 60)), none⟩,
    ⟨some 62, .p (.mn [.c (.int .i64 99), .t 61]), none⟩,
    ⟨some 63, .p (.lad 9 2), none⟩,
    ⟨some 64, .p (.faddr 1 (.t 63)), none⟩,
    ⟨none, .p (.storeL 9 1 (some (.t 64)) (.t 62)), none⟩])
  (.reg [⟨some 65, .p (.lad 7 0), none⟩,
    ⟨some 66, .p (.loadL 7 1 false (some (.t 65))), none⟩,
    ⟨some 67, .p (.loadL 9 4 true none), none⟩,
    ⟨some 68, .p (.bslice 4 [.int .i64 0, .int .i64 0, .int .i64 0, .int .i64 0] 1 [(0, .t 67)]), none⟩,
    ⟨some 69, .h (.append 4 32 (.t 66) (.t 68)), none⟩,
    ⟨some 70, .p (.lad 7 0), none⟩,
    ⟨none, .p (.storeL 7 1 (some (.t 70)) (.t 69)), none⟩]))))))
  (.reg [⟨some 22, .p (.mov (.t 8)), none⟩,
    ⟨some 23, .p (.bin .add (.t 22) (.c (.int .i64 1))), none⟩,
    ⟨some 8, .p (.mov (.t 23)), none⟩])))
def g37_macadamlaw03_rightly_l1 : ACode := (.seq (.seq (.reg [⟨some 71, .p (.mov (.t 12)), none⟩,
    ⟨some 72, .p (.lad 3 1), none⟩,
    ⟨some 73, .p (.loadL 3 1 false (some (.t 72))), none⟩,
    ⟨some 74, .p (.len (.t 73)), none⟩,
    ⟨some 75, .p (.bin .lss (.t 71) (.t 74)), none⟩])
  (.cond (.t 75) .skip (.exit 2)))
  (.seq (.block 3 (.seq (.reg [⟨some 78, .p (.lad 3 1), none⟩,
    ⟨some 79, .p (.loadL 3 1 false (some (.t 78))), none⟩,
    ⟨some 80, .p (.mov (.t 12)), none⟩,
    ⟨some 81, .p (.iaddr none 4 (.t 79) (.t 80)), none⟩,
    ⟨some 82, .p (.loadC 4 true (.t 81)), none⟩,
    ⟨some 13, .p (.allocL 13 [.int .i64 0, .int .i64 0, .int .i64 0, .int .i64 0]), none⟩,
    ⟨none, .p (.storeL 13 4 none (.t 82)), none⟩])
  (.seq (.reg [⟨some 83, .p (.lad 4 1), none⟩,
    ⟨some 84, .p (.loadL 4 1 false (some (.t 83))), none⟩,
    ⟨some 85, .p (.mov (.t 12)), none⟩,
    ⟨some 86, .p (.iaddr none 1 (.t 84) (.t 85)), none⟩,
    ⟨some 87, .p (.loadC 1 false (.t 86)), none⟩,
    ⟨some 88, .p (.mov (.t 2)), none⟩,
    ⟨some 89, .p (.mov (.t 12)), none⟩,
    ⟨some 90, .calli (.f 86) [.t 88, .t 89], none⟩,
    ⟨some 91, .p (.lad 13 2), none⟩,
    ⟨some 92, .p (.loadL 13 1 false (some (.t 91))), none⟩,
    ⟨some 93, .p (.lad 3 2), none⟩,
    ⟨some 94, .p (.iaddr (some 4) 1 (.t 93) (.t 92)), none⟩,
    ⟨some 95, .p (.loadL 3 1 false (some (.t 94))), none⟩,
    ⟨some 96, .p (.bin .add (.t 95) (.c (.int .i64 1))), none⟩,
    ⟨some 97, .calli (.f 38) [.t 90, .t 96], none⟩,
    ⟨some 98, .p (.bin .add (.t 87) (.t 97)), none⟩,
    ⟨some 99, .p (.mn [.c (.int .i64 6), .t 98]), none⟩,
    ⟨some 100, .p (.lad 13 3), none⟩,
    ⟨none, .p (.storeL 13 1 (some (.t 100)) (.t 99)), none⟩])
  (.reg [⟨some 101, .p (.lad 7 1), none⟩,
    ⟨some 102, .p (.loadL 7 1 false (some (.t 101))), none⟩,
    ⟨some 103, .p (.loadL 13 4 true none), none⟩,
    ⟨some 104, .p (.bslice 4 [.int .i64 0, .int .i64 0, .int .i64 0, .int .i64 0] 1 [(0, .t 103)]), none⟩,
    ⟨some 105, .h (.append 4 32 (.t 102) (.t 104)), none⟩,
    ⟨some 106, .p (.lad 7 1), none⟩,
    ⟨none, .p (.storeL 7 1 (some (.t 106)) (.t 105)), none⟩]))))
  (.reg [⟨some 76, .p (.mov (.t 12)), none⟩,
    ⟨some 77, .p (.bin .add (.t 76) (.c (.int .i64 1))), none⟩,
    ⟨some 12, .p (.mov (.t 77)), none⟩])))
def g37_macadamlaw03_rightly_c : ACode := (.seq (.reg [⟨some 3, .p (.boxL 3 (.t 0)), none⟩,
    ⟨some 4, .p (.boxL 4 (.t 1)), none⟩,
    ⟨some 6, .p (.allocL 6 [.sl [] .exact, .sl [] .exact, .int .i64 0, .int .i64 0, .int .i64 0, .int .i64 0]), none⟩])
  (.seq (.reg [⟨some 14, .p (.loadL 3 6 true none), none⟩,
    ⟨some 7, .p (.allocL 7 [.sl [] .exact, .sl [] .exact, .int .i64 0, .int .i64 0, .int .i64 0, .int .i64 0]), none⟩,
    ⟨none, .p (.storeL 7 6 none (.t 14)), none⟩])
  (.seq (.reg [⟨some 15, .p (.lad 7 0), none⟩,
    ⟨none, .p (.storeL 7 1 (some (.t 15)) (.c (.sl [] .exact))), none⟩,
    ⟨some 16, .p (.lad 7 1), none⟩,
    ⟨none, .p (.storeL 7 1 (some (.t 16)) (.c (.sl [] .exact))), none⟩])
  (.seq (.seq (.reg [⟨some 8, .p (.mov (.c (.int .i64 0))), none⟩])
  (.block 0 (.loop g37_macadamlaw03_rightly_l0)))
  (.seq (.seq (.reg [⟨some 12, .p (.mov (.c (.int .i64 0))), none⟩])
  (.block 2 (.loop g37_macadamlaw03_rightly_l1)))
  (.seq (.reg [⟨some 107, .p (.loadL 7 6 true none), none⟩,
    ⟨none, .p (.storeL 6 6 none (.t 107)), none⟩])
  .ret))))))
def g37_macadamlaw03_rightly : AFn := ⟨g37_macadamlaw03_rightly_c, [.cellL 6 6 true], 3⟩

/-- macadam/macadamref00.Wrap -/
def g38_macadamref00_Wrap_c : ACode := (.seq (.reg [⟨some 4, .p (.mov (.c (.int .i64 0))), none⟩])
  (.seq (.seq (.reg [⟨some 6, .p (.mov (.t 1)), none⟩,
    ⟨some 7, .p (.bin .leq (.t 6) (.c (.int .i64 0))), none⟩])
  (.cond (.t 7) (.seq (.reg [⟨some 4, .p (.mov (.c (.int .i64 0))), none⟩])
  .ret) .skip))
  (.seq (.reg [⟨some 8, .p (.mov (.t 0)), none⟩,
    ⟨some 9, .p (.mov (.t 1)), none⟩,
    ⟨some 10, .p (.bin .rem (.t 8) (.t 9)), none⟩,
    ⟨some 5, .p (.mov (.t 10)), none⟩])
  (.seq (.seq (.reg [⟨some 11, .p (.mov (.t 5)), none⟩,
    ⟨some 12, .p (.bin .lss (.t 11) (.c (.int .i64 0))), none⟩])
  (.cond (.t 12) (.reg [⟨some 13, .p (.mov (.t 5)), none⟩,
    ⟨some 14, .p (.mov (.t 1)), none⟩,
    ⟨some 15, .p (.bin .add (.t 13) (.t 14)), none⟩,
    ⟨some 5, .p (.mov (.t 15)), none⟩]) .skip))
  (.seq (.reg [⟨some 16, .p (.mov (.t 5)), none⟩,
    ⟨some 4, .p (.mov (.t 16)), none⟩])
  .ret)))))
def g38_macadamref00_Wrap : AFn := ⟨g38_macadamref00_Wrap_c, [.t 4], 2⟩

/-- macadam/macadamref00.Holds -/
def g39_macadamref00_Holds_c : ACode := (.seq (.reg [⟨some 2, .p (.boxL 2 (.t 0)), none⟩,
    ⟨some 4, .p (.mov (.c (.bool false))), none⟩])
  (.seq (.reg [⟨some 5, .p (.mov (.t 1)), none⟩,
    ⟨some 6, .p (.lad 2 0), none⟩,
    ⟨some 7, .p (.loadL 2 1 false (some (.t 6))), none⟩,
    ⟨some 8, .p (.lad 2 1), none⟩,
    ⟨some 9, .p (.loadL 2 1 false (some (.t 8))), none⟩,
    ⟨some 10, .calli (.f 63) [.t 5, .t 7, .t 9], none⟩,
    ⟨some 4, .p (.mov (.t 10)), none⟩])
  .ret))
def g39_macadamref00_Holds : AFn := ⟨g39_macadamref00_Holds_c, [.t 4], 2⟩

/-- macadam/macadamref00.Rising -/
def g40_macadamref00_Rising_l0 : ACode := (.seq (.seq (.reg [⟨some 7, .p (.mov (.t 6)), none⟩,
    ⟨some 8, .p (.mov (.t 0)), none⟩,
    ⟨some 9, .p (.len (.t 8)), none⟩,
    ⟨some 10, .p (.bin .lss (.t 7) (.t 9)), none⟩])
  (.cond (.t 10) .skip (.exit 0)))
  (.seq (.block 1 (.seq (.seq (.reg [⟨some 13, .p (.mov (.t 0)), none⟩,
    ⟨some 14, .p (.mov (.t 6)), none⟩,
    ⟨some 15, .p (.iaddr none 1 (.t 13) (.t 14)), none⟩,
    ⟨some 16, .p (.loadC 1 false (.t 15)), none⟩,
    ⟨some 17, .p (.mov (.t 5)), none⟩,
    ⟨some 18, .p (.bin .leq (.t 16) (.t 17)), none⟩,
    ⟨some 19, .p (.mov (.t 18)), none⟩,
    ⟨some 20, .p (.mov (.t 0)), (some (19, false))⟩,
    ⟨some 21, .p (.mov (.t 6)), (some (19, false))⟩,
    ⟨some 22, .p (.iaddr none 1 (.t 20) (.t 21)), (some (19, false))⟩,
    ⟨some 23, .p (.loadC 1 false (.t 22)), (some (19, false))⟩,
    ⟨some 24, .p (.mov (.t 1)), (some (19, false))⟩,
    ⟨some 25, .p (.bin .geq (.t 23) (.t 24)), (some (19, false))⟩,
    ⟨some 26, .p (.pick (.t 19) (.c (.bool true)) (.t 25)), none⟩])
  (.cond (.t 26) (.seq (.reg [⟨some 4, .p (.mov (.c (.bool false))), none⟩])
  .ret) .skip))
  (.reg [⟨some 27, .p (.mov (.t 0)), none⟩,
    ⟨some 28, .p (.mov (.t 6)), none⟩,
    ⟨some 29, .p (.iaddr none 1 (.t 27) (.t 28)), none⟩,
    ⟨some 30, .p (.loadC 1 false (.t 29)), none⟩,
    ⟨some 5, .p (.mov (.t 30)), none⟩])))
  (.reg [⟨some 11, .p (.mov (.t 6)), none⟩,
    ⟨some 12, .p (.bin .add (.t 11) (.c (.int .i64 1))), none⟩,
    ⟨some 6, .p (.mov (.t 12)), none⟩])))
def g40_macadamref00_Rising_c : ACode := (.seq (.reg [⟨some 4, .p (.mov (.c (.bool false))), none⟩])
  (.seq (.reg [⟨some 5, .p (.mov (.c (.int .i64 (-1)))), none⟩])
  (.seq (.seq (.reg [⟨some 6, .p (.mov (.c (.int .i64 0))), none⟩])
  (.block 0 (.loop g40_macadamref00_Rising_l0)))
  (.seq (.reg [⟨some 4, .p (.mov (.c (.bool true))), none⟩])
  .ret))))
def g40_macadamref00_Rising : AFn := ⟨g40_macadamref00_Rising_c, [.t 4], 2⟩

/-- macadam/macadamref00.Just -/
def g41_macadamref00_Just_c : ACode := (.seq (.reg [⟨some 2, .p (.allocL 2 [.int .i64 0, .int .i64 0]), none⟩])
  (.seq (.reg [⟨some 3, .p (.mov (.t 0)), none⟩,
    ⟨some 4, .p (.mov (.t 0)), none⟩,
    ⟨some 5, .calli (.f 44) [.t 3, .t 4], none⟩,
    ⟨none, .p (.storeL 2 2 none (.t 5)), none⟩])
  .ret))
def g41_macadamref00_Just : AFn := ⟨g41_macadamref00_Just_c, [.cellL 2 2 true], 1⟩

/-- macadam/macadamref00.Sane -/
def g42_macadamref00_Sane_c : ACode := (.seq (.reg [⟨some 4, .p (.boxL 4 (.t 0)), none⟩,
    ⟨some 8, .p (.mov (.c (.bool false))), none⟩])
  (.seq (.reg [⟨some 9, .p (.mov (.t 1)), none⟩,
    ⟨some 10, .p (.lad 4 0), none⟩,
    ⟨some 11, .p (.loadL 4 1 false (some (.t 10))), none⟩,
    ⟨some 12, .p (.bin .leq (.t 9) (.t 11)), none⟩,
    ⟨some 13, .p (.mov (.t 12)), none⟩,
    ⟨some 14, .p (.lad 4 0), (some (13, true))⟩,
    ⟨some 15, .p (.loadL 4 1 false (some (.t 14))), (some (13, true))⟩,
    ⟨some 16, .p (.lad 4 1), (some (13, true))⟩,
    ⟨some 17, .p (.loadL 4 1 false (some (.t 16))), (some (13, true))⟩,
    ⟨some 18, .p (.bin .leq (.t 15) (.t 17)), (some (13, true))⟩,
    ⟨some 19, .p (.pick (.t 13) (.t 18) (.c (.bool false))), none⟩,
    ⟨some 20, .p (.mov (.t 19)), none⟩,
    ⟨some 21, .p (.lad 4 1), (some (20, true))⟩,
    ⟨some 22, .p (.loadL 4 1 false (some (.t 21))), (some (20, true))⟩,
    ⟨some 23, .p (.mov (.t 2)), (some (20, true))⟩,
    ⟨some 24, .p (.bin .leq (.t 22) (.t 23)), (some (20, true))⟩,
    ⟨some 25, .p (.pick (.t 20) (.t 24) (.c (.bool false))), none⟩,
    ⟨some 26, .p (.mov (.t 25)), none⟩,
    ⟨some 27, .p (.lad 4 1), (some (26, true))⟩,
    ⟨some 28, .p (.loadL 4 1 false (some (.t 27))), (some (26, true))⟩,
    ⟨some 29, .p (.lad 4 0), (some (26, true))⟩,
    ⟨some 30, .p (.loadL 4 1 false (some (.t 29))), (some (26, true))⟩,
    ⟨some 31, .p (.bin .sub (.t 28) (.t 30)), (some (26, true))⟩,
    ⟨some 32, .p (.mov (.t 3)), (some (26, true))⟩,
    ⟨some 33, .p (.bin .leq (.t 31) (.t 32)), (some (26, true))⟩,
    ⟨some 34, .p (.pick (.t 26) (.t 33) (.c (.bool false))), none⟩,
    ⟨some 8, .p (.mov (.t 34)), none⟩])
  .ret))
def g42_macadamref00_Sane : AFn := ⟨g42_macadamref00_Sane_c, [.t 8], 4⟩

/-- macadam/macadamref00.Inner -/
def g43_macadamref00_Inner_c : ACode := (.seq (.reg [⟨some 2, .p (.boxL 2 (.t 0)), none⟩,
    ⟨some 3, .p (.boxL 3 (.t 1)), none⟩,
    ⟨some 4, .p (.mov (.c (.bool false))), none⟩])
  (.seq (.reg [⟨some 5, .p (.lad 2 0), none⟩,
    ⟨some 6, .p (.loadL 2 1 false (some (.t 5))), none⟩,
    ⟨some 7, .p (.lad 3 0), none⟩,
    ⟨some 8, .p (.loadL 3 1 false (some (.t 7))), none⟩,
    ⟨some 9, .p (.bin .leq (.t 6) (.t 8)), none⟩,
    ⟨some 10, .p (.mov (.t 9)), none⟩,
    ⟨some 11, .p (.lad 3 1), (some (10, true))⟩,
    ⟨some 12, .p (.loadL 3 1 false (some (.t 11))), (some (10, true))⟩,
    ⟨some 13, .p (.lad 2 1), (some (10, true))⟩,
    ⟨some 14, .p (.loadL 2 1 false (some (.t 13))), (some (10, true))⟩,
    ⟨some 15, .p (.bin .leq (.t 12) (.t 14)), (some (10, true))⟩,
    ⟨some 16, .p (.pick (.t 10) (.t 15) (.c (.bool false))), none⟩,
    ⟨some 4, .p (.mov (.t 16)), none⟩])
  .ret))
def g43_macadamref00_Inner : AFn := ⟨g43_macadamref00_Inner_c, [.t 4], 2⟩

/-- macadam/macadamref00.Reach -/
def g44_macadamref00_Reach_c : ACode := (.seq (.reg [⟨some 4, .p (.allocL 4 [.int .i64 0, .int .i64 0]), none⟩])
  (.seq (.reg [⟨some 5, .p (.mov (.t 0)), none⟩,
    ⟨some 6, .p (.mov (.t 1)), none⟩,
    ⟨some 7, .p (.build [.int .i64 0, .int .i64 0] [(0, 1, .t 5), (1, 1, .t 6)]), none⟩,
    ⟨none, .p (.storeL 4 2 none (.t 7)), none⟩])
  .ret))
def g44_macadamref00_Reach : AFn := ⟨g44_macadamref00_Reach_c, [.cellL 4 2 true], 2⟩

/-- macadam/macadamref00.Sum -/
def g45_macadamref00_Sum_c : ACode := (.seq (.reg [⟨some 2, .p (.boxL 2 (.t 0)), none⟩,
    ⟨some 3, .p (.boxL 3 (.t 1)), none⟩,
    ⟨some 4, .p (.allocL 4 [.int .i64 0, .int .i64 0]), none⟩])
  (.seq (.reg [⟨some 5, .p (.lad 2 0), none⟩,
    ⟨some 6, .p (.loadL 2 1 false (some (.t 5))), none⟩,
    ⟨some 7, .p (.lad 3 0), none⟩,
    ⟨some 8, .p (.loadL 3 1 false (some (.t 7))), none⟩,
    ⟨some 9, .p (.bin .add (.t 6) (.t 8)), none⟩,
    ⟨some 10, .p (.lad 2 1), none⟩,
    ⟨some 11, .p (.loadL 2 1 false (some (.t 10))), none⟩,
    ⟨some 12, .p (.lad 3 1), none⟩,
    ⟨some 13, .p (.loadL 3 1 false (some (.t 12))), none⟩,
    ⟨some 14, .p (.bin .add (.t 11) (.t 13)), none⟩,
    ⟨some 15, .calli (.f 44) [.t 9, .t 14], none⟩,
    ⟨none, .p (.storeL 4 2 none (.t 15)), none⟩])
  .ret))
def g45_macadamref00_Sum : AFn := ⟨g45_macadamref00_Sum_c, [.cellL 4 2 true], 2⟩

/-- macadam/macadamref00.Set -/
def g46_macadamref00_Set_l0 : ACode := (.seq (.seq (.reg [⟨some 5, .p (.mov (.t 4)), none⟩,
    ⟨some 6, .p (.mov (.t 0)), none⟩,
    ⟨some 7, .p (.len (.t 6)), none⟩,
    ⟨some 8, .p (.bin .lss (.t 5) (.t 7)), none⟩])
  (.cond (.t 8) .skip (.exit 0)))
  (.seq (.block 1 (.reg [⟨some 11, .p (.mov (.t 3)), none⟩,
    ⟨some 12, .p (.mov (.t 0)), none⟩,
    ⟨some 13, .p (.mov (.t 4)), none⟩,
    ⟨some 14, .p (.iaddr none 1 (.t 12) (.t 13)), none⟩,
    ⟨some 15, .p (.loadC 1 false (.t 14)), none⟩,
    ⟨some 16, .p (.bin .shl (.c (.int .i64 1)) (.t 15)), none⟩,
    ⟨some 17, .p (.bin .or (.t 11) (.t 16)), none⟩,
    ⟨some 3, .p (.mov (.t 17)), none⟩]))
  (.reg [⟨some 9, .p (.mov (.t 4)), none⟩,
    ⟨some 10, .p (.bin .add (.t 9) (.c (.int .i64 1))), none⟩,
    ⟨some 4, .p (.mov (.t 10)), none⟩])))
def g46_macadamref00_Set_c : ACode := (.seq (.reg [⟨some 2, .p (.mov (.c (.int .i64 0))), none⟩])
  (.seq (.reg [⟨some 3, .p (.mov (.c (.int .i64 0))), none⟩])
  (.seq (.seq (.reg [⟨some 4, .p (.mov (.c (.int .i64 0))), none⟩])
  (.block 0 (.loop g46_macadamref00_Set_l0)))
  (.seq (.reg [⟨some 18, .p (.mov (.t 3)), none⟩,
    ⟨some 2, .p (.mov (.t 18)), none⟩])
  .ret))))
def g46_macadamref00_Set : AFn := ⟨g46_macadamref00_Set_c, [.t 2], 1⟩

/-- macadam/macadamref00.Place -/
def g47_macadamref00_Place_l0 : ACode := (.seq (.seq (.reg [⟨some 6, .p (.mov (.t 5)), none⟩,
    ⟨some 7, .p (.mov (.t 0)), none⟩,
    ⟨some 8, .p (.len (.t 7)), none⟩,
    ⟨some 9, .p (.bin .lss (.t 6) (.t 8)), none⟩])
  (.cond (.t 9) .skip (.exit 0)))
  (.seq (.block 1 (.seq (.reg [⟨some 12, .p (.mov (.t 0)), none⟩,
    ⟨some 13, .p (.mov (.t 5)), none⟩,
    ⟨some 14, .p (.iaddr none 1 (.t 12) (.t 13)), none⟩,
    ⟨some 15, .p (.loadC 1 false (.t 14)), none⟩,
    ⟨some 16, .p (.mov (.t 1)), none⟩,
    ⟨some 17, .p (.bin .eql (.t 15) (.t 16)), none⟩])
  (.cond (.t 17) (.seq (.reg [⟨some 18, .p (.mov (.t 5)), none⟩,
    ⟨some 4, .p (.mov (.t 18)), none⟩])
  .ret) .skip)))
  (.reg [⟨some 10, .p (.mov (.t 5)), none⟩,
    ⟨some 11, .p (.bin .add (.t 10) (.c (.int .i64 1))), none⟩,
    ⟨some 5, .p (.mov (.t 11)), none⟩])))
def g47_macadamref00_Place_c : ACode := (.seq (.reg [⟨some 4, .p (.mov (.c (.int .i64 0))), none⟩])
  (.seq (.seq (.reg [⟨some 5, .p (.mov (.c (.int .i64 0))), none⟩])
  (.block 0 (.loop g47_macadamref00_Place_l0)))
  (.seq (.reg [⟨some 4, .p (.mov (.c (.int .i64 (-1)))), none⟩])
  .ret)))
def g47_macadamref00_Place : AFn := ⟨g47_macadamref00_Place_c, [.t 4], 2⟩

/-- macadam/macadamref00.All -/
def g48_macadamref00_All_l0 : ACode := (.seq (.seq (.reg [⟨some 8, .p (.mov (.t 6)), none⟩,
    ⟨some 9, .p (.mov (.t 1)), none⟩,
    ⟨some 10, .p (.bin .lss (.t 8) (.t 9)), none⟩])
  (.cond (.t 10) .skip (.exit 0)))
  (.seq (.block 1 (.seq (.reg [⟨some 13, .p (.mov (.t 0)), none⟩,
    ⟨some 14, .p (.mov (.t 6)), none⟩,
    ⟨some 15, .calli (.f 87) [.t 13, .t 14], none⟩])
  (.cond (.t 15) (.reg [⟨some 16, .p (.mov (.t 5)), none⟩,
    ⟨some 17, .p (.mov (.t 6)), none⟩,
    ⟨some 18, .p (.bslice 1 [.int .i64 0] 1 [(0, .t 17)]), none⟩,
    ⟨some 19, .h (.append 1 8 (.t 16) (.t 18)), none⟩,
    ⟨some 5, .p (.mov (.t 19)), none⟩]) .skip)))
  (.reg [⟨some 11, .p (.mov (.t 6)), none⟩,
    ⟨some 12, .p (.bin .add (.t 11) (.c (.int .i64 1))), none⟩,
    ⟨some 6, .p (.mov (.t 12)), none⟩])))
def g48_macadamref00_All_c : ACode := (.seq (.reg [⟨some 4, .p (.mov (.c (.sl [] .exact))), none⟩])
  (.seq (.reg [⟨some 7, .p (.bslice 1 [.int .i64 0] 0 []), none⟩,
    ⟨some 5, .p (.mov (.t 7)), none⟩])
  (.seq (.seq (.reg [⟨some 6, .p (.mov (.c (.int .i64 0))), none⟩])
  (.block 0 (.loop g48_macadamref00_All_l0)))
  (.seq (.reg [⟨some 20, .p (.mov (.t 5)), none⟩,
    ⟨some 4, .p (.mov (.t 20)), none⟩])
  .ret))))
def g48_macadamref00_All : AFn := ⟨g48_macadamref00_All_c, [.t 4], 2⟩

/-- macadam/macadamlaw03.freed -/
def g49_macadamlaw03_freed_l0 : ACode := (.seq (.seq (.reg [⟨some 15, .p (.mov (.t 8)), none⟩,
    ⟨some 16, .p (.mov (.t 1)), none⟩,
    ⟨some 17, .p (.len (.t 16)), none⟩,
    ⟨some 18, .p (.bin .lss (.t 15) (.t 17)), none⟩])
  (.cond (.t 18) .skip (.exit 0)))
  (.seq (.block 1 (.reg [⟨some 21, .p (.lad 7 1), none⟩,
    ⟨some 22, .p (.loadL 7 1 false (some (.t 21))), none⟩,
    ⟨some 23, .p (.mov (.t 1)), none⟩,
    ⟨some 24, .p (.mov (.t 8)), none⟩,
    ⟨some 25, .p (.iaddr none 1 (.t 23) (.t 24)), none⟩,
    ⟨some 26, .p (.loadC 1 false (.t 25)), none⟩,
    ⟨some 27, .p (.mov (.t 2)), none⟩,
    ⟨some 28, .p (.mov (.t 8)), none⟩,
    ⟨some 29, .calli (.f 86) [.t 27, .t 28], none⟩,
    ⟨some 30, .calli (.f 38) [.t 29, .c (.int .i64 7)], none⟩,
    ⟨some 31, .p (.iaddr none 4 (.t 22) (.t 26)), none⟩,
    ⟨some 32, .p (.faddr 3 (.t 31)), none⟩,
    ⟨none, .h (.store 1 (.t 32) (.t 30)), none⟩]))
  (.reg [⟨some 19, .p (.mov (.t 8)), none⟩,
    ⟨some 20, .p (.bin .add (.t 19) (.c (.int .i64 1))), none⟩,
    ⟨some 8, .p (.mov (.t 20)), none⟩])))
def g49_macadamlaw03_freed_c : ACode := (.seq (.reg [⟨some 3, .p (.boxL 3 (.t 0)), none⟩,
    ⟨some 6, .p (.allocL 6 [.sl [] .exact, .sl [] .exact, .int .i64 0, .int .i64 0, .int .i64 0, .int .i64 0]), none⟩])
  (.seq (.reg [⟨some 9, .p (.loadL 3 6 true none), none⟩,
    ⟨some 7, .p (.allocL 7 [.sl [] .exact, .sl [] .exact, .int .i64 0, .int .i64 0, .int .i64 0, .int .i64 0]), none⟩,
    ⟨none, .p (.storeL 7 6 none (.t 9)), none⟩])
  (.seq (.reg [⟨some 10, .p (.bslice 4 [.int .i64 0, .int .i64 0, .int .i64 0, .int .i64 0] 0 []), none⟩,
    ⟨some 11, .p (.lad 3 1), none⟩,
    ⟨some 12, .p (.loadL 3 1 false (some (.t 11))), none⟩,
    ⟨some 13, .h (.appendM 4 32 (.t 10) (.t 12)), none⟩,
    ⟨some 14, .p (.lad 7 1), none⟩,
    ⟨none, .p (.storeL 7 1 (some (.t 14)) (.t 13)), none⟩])
  (.seq (.seq (.reg [⟨some 8, .p (.mov (.c (.int .i64 0))), none⟩])
  (.block 0 (.loop g49_macadamlaw03_freed_l0)))
  (.seq (.reg [⟨some 33, .p (.loadL 7 6 true none), none⟩,
    ⟨none, .p (.storeL 6 6 none (.t 33)), none⟩])
  .ret)))))
def g49_macadamlaw03_freed : AFn := ⟨g49_macadamlaw03_freed_c, [.cellL 6 6 true], 3⟩

/-- macadam/macadamref00.Fewer -/
def g50_macadamref00_Fewer_c : ACode := (.seq (.reg [⟨some 4, .p (.mov (.c (.bool false))), none⟩])
  (.seq (.seq (.reg [⟨some 5, .p (.mov (.t 0)), none⟩,
    ⟨some 6, .p (.len (.t 5)), none⟩,
    ⟨some 7, .p (.mov (.t 1)), none⟩,
    ⟨some 8, .p (.len (.t 7)), none⟩,
    ⟨some 9, .p (.bin .neq (.t 6) (.t 8)), none⟩])
  (.cond (.t 9) (.seq (.reg [⟨some 10, .p (.mov (.t 0)), none⟩,
    ⟨some 11, .p (.len (.t 10)), none⟩,
    ⟨some 12, .p (.mov (.t 1)), none⟩,
    ⟨some 13, .p (.len (.t 12)), none⟩,
    ⟨some 14, .p (.bin .lss (.t 11) (.t 13)), none⟩,
    ⟨some 4, .p (.mov (.t 14)), none⟩])
  .ret) .skip))
  (.seq (.reg [⟨some 15, .p (.mov (.t 0)), none⟩,
    ⟨some 16, .p (.mov (.t 1)), none⟩,
    ⟨some 17, .calli (.f 88) [.t 15, .t 16], none⟩,
    ⟨some 4, .p (.mov (.t 17)), none⟩])
  .ret)))
def g50_macadamref00_Fewer : AFn := ⟨g50_macadamref00_Fewer_c, [.t 4], 2⟩

/-- macadam/macadamlaw03.mends -/
def g51_macadamlaw03_mends_l0 : ACode := (.seq (.seq (.reg [⟨some 22, .p (.mov (.t 7)), none⟩,
    ⟨some 23, .p (.bin .leq (.t 22) (.c (.int .i64 6))), none⟩])
  (.cond (.t 23) .skip (.exit 0)))
  (.seq (.block 1 (.seq (.reg [⟨some 26, .p (.loadL 2 6 true none), none⟩,
    ⟨some 8, .p (.allocL 8 [.sl [] .exact, .sl [] .exact, .int .i64 0, .int .i64 0, .int .i64 0, .int .i64 0]), none⟩,
    ⟨none, .p (.storeL 8 6 none (.t 26)), none⟩])
  (.seq (.reg [⟨some 27, .p (.bslice 4 [.int .i64 0, .int .i64 0, .int .i64 0, .int .i64 0] 0 []), none⟩,
    ⟨some 28, .p (.lad 2 1), none⟩,
    ⟨some 29, .p (.loadL 2 1 false (some (.t 28))), none⟩,
    ⟨some 30, .h (.appendM 4 32 (.t 27) (.t 29)), none⟩,
    ⟨some 31, .p (.lad 8 1), none⟩,
    ⟨none, .p (.storeL 8 1 (some (.t 31)) (.t 30)), none⟩])
  (.seq (.reg [⟨some 32, .p (.lad 8 1), none⟩,
    ⟨some 33, .p (.loadL 8 1 false (some (.t 32))), none⟩,
    ⟨some 34, .p (.mov (.t 1)), none⟩,
    ⟨some 35, .p (.iaddr none 1 (.t 34) (.c (.int .i64 0))), none⟩,
    ⟨some 36, .p (.loadC 1 false (.t 35)), none⟩,
    ⟨some 37, .p (.mov (.t 7)), none⟩,
    ⟨some 38, .p (.iaddr none 4 (.t 33) (.t 36)), none⟩,
    ⟨some 39, .p (.faddr 3 (.t 38)), none⟩,
    ⟨none, .h (.store 1 (.t 39) (.t 37)), none⟩])
  (.frzm 8 (.seq (.reg [⟨some 40, .p (.loadL 8 6 true none), none⟩,
    ⟨some 41, .p (.mov (.t 1)), none⟩,
    ⟨some 42, .p (.slice 1 (.t 41) (some (.c (.int .i64 1))) none none), none⟩,
    ⟨some 43, .calli (.f 51) [.t 40, .t 42], none⟩])
  (.cond (.t 43) (.seq (.reg [⟨some 4, .p (.mov (.c (.bool true))), none⟩])
  .ret) .skip)))))))
  (.reg [⟨some 24, .p (.mov (.t 7)), none⟩,
    ⟨some 25, .p (.bin .add (.t 24) (.c (.int .i64 1))), none⟩,
    ⟨some 7, .p (.mov (.t 25)), none⟩])))
def g51_macadamlaw03_mends_c : ACode := (.seq (.reg [⟨some 2, .p (.boxL 2 (.t 0)), none⟩,
    ⟨some 4, .p (.mov (.c (.bool false))), none⟩])
  (.seq (.seq (.reg [⟨some 9, .p (.mov (.t 1)), none⟩,
    ⟨some 10, .p (.len (.t 9)), none⟩,
    ⟨some 11, .p (.bin .eql (.t 10) (.c (.int .i64 0))), none⟩])
  (.cond (.t 11) (.seq (.reg [⟨some 13, .p (.loadL 2 6 true none), none⟩,
    ⟨some 14, .calli (.f 15) [.t 13], none⟩,
    ⟨some 12, .p (.mov (.t 14)), none⟩,
    ⟨some 15, .p (.extract (.t 12) 0), none⟩,
    ⟨some 16, .p (.extract (.t 12) 1), none⟩,
    ⟨some 5, .p (.mov (.t 15)), none⟩,
    ⟨some 6, .p (.mov (.t 16)), none⟩])
  (.seq (.reg [⟨some 17, .p (.mov (.t 6)), none⟩,
    ⟨some 18, .p (.bin .eql (.t 17) (.c (.int .i64 0))), none⟩,
    ⟨some 19, .p (.mov (.t 18)), none⟩,
    ⟨some 20, .p (.mov (.t 5)), (some (19, true))⟩,
    ⟨some 21, .p (.pick (.t 19) (.t 20) (.c (.bool false))), none⟩,
    ⟨some 4, .p (.mov (.t 21)), none⟩])
  .ret)) .skip))
  (.seq (.seq (.reg [⟨some 7, .p (.mov (.c (.int .i64 0))), none⟩])
  (.block 0 (.loop g51_macadamlaw03_mends_l0)))
  (.seq (.reg [⟨some 4, .p (.mov (.c (.bool false))), none⟩])
  .ret))))
def g51_macadamlaw03_mends : AFn := ⟨g51_macadamlaw03_mends_c, [.t 4], 2⟩

/-- macadam/macadamlaw03.own -/
def g52_macadamlaw03_own_c : ACode := (.seq (.reg [⟨some 0, .p (.allocL 0 [.sl [] .exact, .sl [] .exact, .int .i64 0, .int .i64 0, .int .i64 0, .int .i64 0]), none⟩])
  (.seq (.reg [⟨some 1, .calli (.f 44) [.c (.int .i64 4), .c (.int .i64 6)], none⟩,
    ⟨some 2, .calli (.f 89) [.t 1], none⟩,
    ⟨none, .p (.storeL 0 6 none (.t 2)), none⟩])
  .ret))
def g52_macadamlaw03_own : AFn := ⟨g52_macadamlaw03_own_c, [.cellL 0 6 true], 0⟩

/-- macadam/macadamlaw03.torn -/
def g53_macadamlaw03_torn_c : ACode := (.seq (.reg [⟨some 0, .p (.allocL 0 [.sl [] .exact, .sl [] .exact, .int .i64 0, .int .i64 0, .int .i64 0, .int .i64 0]), none⟩])
  (.seq (.reg [⟨some 1, .calli (.f 41) [.c (.int .i64 9)], none⟩,
    ⟨some 2, .calli (.f 89) [.t 1], none⟩,
    ⟨none, .p (.storeL 0 6 none (.t 2)), none⟩])
  .ret))
def g53_macadamlaw03_torn : AFn := ⟨g53_macadamlaw03_torn_c, [.cellL 0 6 true], 0⟩

/-- macadam/macadamlaw03.full -/
def g54_macadamlaw03_full_c : ACode := (.seq (.reg [⟨some 0, .p (.allocL 0 [.sl [] .exact, .sl [] .exact, .int .i64 0, .int .i64 0, .int .i64 0, .int .i64 0]), none⟩])
  (.seq (.reg [⟨some 1, .calli (.f 41) [.c (.int .i64 6)], none⟩,
    ⟨some 2, .calli (.f 89) [.t 1], none⟩,
    ⟨none, .p (.storeL 0 6 none (.t 2)), none⟩])
  .ret))
def g54_macadamlaw03_full : AFn := ⟨g54_macadamlaw03_full_c, [.cellL 0 6 true], 0⟩

/-- macadam/stone.opened -/
def g55_stone_opened_l0 : ACode := (.seq (.reg [⟨some 18, .p (.bin .lss (.t 17) (.t 16)), none⟩])
  (.seq (.cond (.t 18) .skip (.exit 0))
  (.seq (.block 1 (.seq (.reg [⟨some 19, .p (.mov (.t 17)), none⟩,
    ⟨some 20, .p (.iaddr none 4 (.t 15) (.t 17)), none⟩,
    ⟨some 21, .p (.loadC 4 true (.t 20)), none⟩,
    ⟨some 7, .p (.allocL 7 [.int .i64 0, .int .i64 0, .int .i64 0, .int .i64 0]), none⟩,
    ⟨some 6, .p (.mov (.t 19)), none⟩,
    ⟨none, .p (.storeL 7 4 none (.t 21)), none⟩])
  (.seq (.reg [⟨some 22, .p (.lad 5 7), none⟩,
    ⟨some 23, .p (.loadL 5 1 false (some (.t 22))), none⟩,
    ⟨some 24, .p (.lad 7 0), none⟩,
    ⟨some 25, .p (.loadL 7 1 false (some (.t 24))), none⟩,
    ⟨some 26, .p (.mov (.t 6)), none⟩,
    ⟨some 27, .p (.bin .add (.t 26) (.c (.int .i64 1))), none⟩,
    ⟨some 28, .p (.build [.int .i64 0, .int .i64 0] [(0, 1, .t 25), (1, 1, .t 27)]), none⟩,
    ⟨none, .h (.mapupd 2 (.t 23) (.t 28) (.c (.bool true))), none⟩])
  (.reg [⟨some 29, .p (.lad 5 7), none⟩,
    ⟨some 30, .p (.loadL 5 1 false (some (.t 29))), none⟩,
    ⟨some 31, .p (.lad 7 1), none⟩,
    ⟨some 32, .p (.loadL 7 1 false (some (.t 31))), none⟩,
    ⟨some 33, .p (.mov (.t 6)), none⟩,
    ⟨some 34, .p (.bin .add (.t 33) (.c (.int .i64 1))), none⟩,
    ⟨some 35, .p (.build [.int .i64 0, .int .i64 0] [(0, 1, .t 32), (1, 1, .t 34)]), none⟩,
    ⟨none, .h (.mapupd 2 (.t 30) (.t 35) (.c (.bool true))), none⟩]))))
  (.reg [⟨some 36, .p (.bin .add (.t 17) (.c (.int .i64 1))), none⟩,
    ⟨some 17, .p (.mov (.t 36)), none⟩]))))
def g55_stone_opened_c : ACode := (.seq (.reg [⟨some 2, .p (.boxL 2 (.t 0)), none⟩,
    ⟨some 3, .p (.boxL 3 (.t 1)), none⟩,
    ⟨some 4, .p (.allocL 4 [.sl [] .exact, .sl [] .exact, .int .i64 0, .int .i64 0, .int .i64 0, .int .i64 0, .nilf, .nilm]), none⟩])
  (.seq (.reg [⟨some 8, .p (.loadL 2 6 true none), none⟩,
    ⟨some 9, .p (.loadL 3 1 true none), none⟩,
    ⟨some 10, .h .mkmap, none⟩,
    ⟨some 11, .p (.loadC 2 true (.g 0)), none⟩,
    ⟨none, .h (.mapupd 2 (.t 10) (.t 11) (.c (.bool true))), none⟩,
    ⟨some 12, .p (.mov (.t 10)), none⟩,
    ⟨some 13, .p (.build [.sl [] .exact, .sl [] .exact, .int .i64 0, .int .i64 0, .int .i64 0, .int .i64 0, .nilf, .nilm] [(0, 6, .t 8), (6, 1, .t 9), (7, 1, .t 12)]), none⟩,
    ⟨some 5, .p (.allocL 5 [.sl [] .exact, .sl [] .exact, .int .i64 0, .int .i64 0, .int .i64 0, .int .i64 0, .nilf, .nilm]), none⟩,
    ⟨none, .p (.storeL 5 8 none (.t 13)), none⟩])
  (.seq (.seq (.reg [⟨some 14, .p (.lad 2 1), none⟩,
    ⟨some 15, .p (.loadL 2 1 false (some (.t 14))), none⟩,
    ⟨some 16, .p (.len (.t 15)), none⟩,
    ⟨some 17, .p (.mov (.c (.int .i64 0))), none⟩])
  (.block 0 (.loop g55_stone_opened_l0)))
  (.seq (.reg [⟨some 37, .p (.loadL 5 8 true none), none⟩,
    ⟨none, .p (.storeL 4 8 none (.t 37)), none⟩])
  .ret))))
def g55_stone_opened : AFn := ⟨g55_stone_opened_c, [.cellL 4 8 true], 2⟩

/-- macadam/stone.some -/
def g56_stone_some_c : ACode := (.seq (.reg [⟨some 1, .p (.boxL 1 (.t 0)), none⟩,
    ⟨some 2, .p (.allocL 2 [.nilf]), none⟩])
  (.seq (.frz [1] (.reg [⟨some 3, .p (.mkfn 90 [] [.t 1]), none⟩,
    ⟨some 4, .p (.build [.nilf] [(0, 1, .t 3)]), none⟩,
    ⟨none, .p (.storeL 2 1 none (.t 4)), none⟩]))
  .ret))
def g56_stone_some : AFn := ⟨g56_stone_some_c, [.cellL 2 1 true], 1⟩

/-- (macadam/stone.book).isTrue -/
def g57_stone_book_isTrue_b0 : ACode := (.block 1 (.seq (.reg [⟨none, .h (.store 1 (.t 2) (.c (.bool true))), none⟩])
  .ret))
def g57_stone_book_isTrue_c : ACode := (.seq (.reg [⟨some 1, .p (.boxL 1 (.t 0)), none⟩,
    ⟨some 2, .h (.alloc [.bool false]), none⟩])
  (.seq (.seq (.reg [⟨some 3, .p (.loadL 1 8 true none), none⟩,
    ⟨some 4, .calli (.f 82) [.t 3], none⟩])
  (.block 0 (.rangeF (.t 4) [5] .skip g57_stone_book_isTrue_b0)))
  (.seq (.reg [⟨none, .h (.store 1 (.t 2) (.c (.bool false))), none⟩])
  .ret)))
def g57_stone_book_isTrue : AFn := ⟨g57_stone_book_isTrue_c, [.cell 2 1 false], 1⟩

/-- macadam/macadamref03.carted -/
def g58_macadamref03_carted_l0 : ACode := (.seq (.seq (.reg [⟨some 19, .p (.mov (.t 8)), none⟩,
    ⟨some 20, .p (.lad 3 0), none⟩,
    ⟨some 21, .p (.loadL 3 1 false (some (.t 20))), none⟩,
    ⟨some 22, .p (.len (.t 21)), none⟩,
    ⟨some 23, .p (.bin .lss (.t 19) (.t 22)), none⟩])
  (.cond (.t 23) .skip (.exit 0)))
  (.seq (.block 1 (.seq (.reg [⟨some 26, .p (.loadL 3 6 true none), none⟩,
    ⟨some 27, .p (.mov (.t 2)), none⟩,
    ⟨some 28, .p (.mov (.t 8)), none⟩,
    ⟨some 29, .calli (.f 77) [.t 26, .t 27, .t 28], none⟩,
    ⟨some 30, .p (.len (.t 29)), none⟩,
    ⟨some 31, .p (.bin .eql (.t 30) (.c (.int .i64 0))), none⟩])
  (.cond (.t 31) (.seq (.reg [⟨some 6, .p (.mov (.c (.sl [] .exact))), none⟩])
  .ret) .skip)))
  (.reg [⟨some 24, .p (.mov (.t 8)), none⟩,
    ⟨some 25, .p (.bin .add (.t 24) (.c (.int .i64 1))), none⟩,
    ⟨some 8, .p (.mov (.t 25)), none⟩])))
def g58_macadamref03_carted_l1 : ACode := (.seq (.seq (.reg [⟨some 39, .p (.mov (.t 11)), none⟩,
    ⟨some 40, .p (.bin .leq (.t 39) (.c (.int .i64 6))), none⟩])
  (.cond (.t 40) .skip (.exit 2)))
  (.seq (.block 3 (.seq (.reg [⟨some 43, .p (.mov (.t 1)), none⟩,
    ⟨some 44, .p (.mov (.t 7)), none⟩,
    ⟨some 45, .calli (.f 87) [.t 43, .t 44], none⟩,
    ⟨some 46, .p (.mov (.t 45)), none⟩,
    ⟨some 47, .p (.lad 10 3), (some (46, false))⟩,
    ⟨some 48, .p (.loadL 10 1 false (some (.t 47))), (some (46, false))⟩,
    ⟨some 49, .p (.mov (.t 11)), (some (46, false))⟩,
    ⟨some 50, .p (.bin .sub (.t 48) (.t 49)), (some (46, false))⟩,
    ⟨some 51, .p (.lad 10 2), (some (46, false))⟩,
    ⟨some 52, .p (.loadL 10 1 false (some (.t 51))), (some (46, false))⟩,
    ⟨some 53, .p (.lad 3 2), (some (46, false))⟩,
    ⟨some 54, .p (.iaddr (some 4) 1 (.t 53) (.t 52)), (some (46, false))⟩,
    ⟨some 55, .p (.loadL 3 1 false (some (.t 54))), (some (46, false))⟩,
    ⟨some 56, .calli (.f 63) [.t 50, .c (.int .i64 0), .t 55], (some (46, false))⟩,
    ⟨some 57, .p (.pick (.t 46) (.c (.bool true)) (.t 56)), none⟩])
  (.cond (.t 57) (.reg [⟨some 58, .p (.mov (.t 9)), none⟩,
    ⟨some 59, .p (.loadL 3 6 true none), none⟩,
    ⟨some 60, .p (.mov (.t 1)), none⟩,
    ⟨some 61, .p (.mov (.t 2)), none⟩,
    ⟨some 62, .p (.mov (.t 11)), none⟩,
    ⟨some 63, .calli (.f 92) [.t 61, .t 62], none⟩,
    ⟨some 64, .calli (.f 58) [.t 59, .t 60, .t 63], none⟩,
    ⟨some 65, .h (.append 1 24 (.t 58) (.t 64)), none⟩,
    ⟨some 9, .p (.mov (.t 65)), none⟩]) .skip)))
  (.reg [⟨some 41, .p (.mov (.t 11)), none⟩,
    ⟨some 42, .p (.bin .add (.t 41) (.c (.int .i64 1))), none⟩,
    ⟨some 11, .p (.mov (.t 42)), none⟩])))
def g58_macadamref03_carted_c : ACode := (.seq (.reg [⟨some 3, .p (.boxL 3 (.t 0)), none⟩,
    ⟨some 6, .p (.mov (.c (.sl [] .exact))), none⟩])
  (.seq (.reg [⟨some 12, .p (.mov (.t 2)), none⟩,
    ⟨some 13, .p (.len (.t 12)), none⟩,
    ⟨some 7, .p (.mov (.t 13)), none⟩])
  (.seq (.seq (.reg [⟨some 14, .p (.mov (.t 7)), none⟩,
    ⟨some 15, .p (.lad 3 1), none⟩,
    ⟨some 16, .p (.loadL 3 1 false (some (.t 15))), none⟩,
    ⟨some 17, .p (.len (.t 16)), none⟩,
    ⟨some 18, .p (.bin .eql (.t 14) (.t 17)), none⟩])
  (.cond (.t 18) (.seq (.seq (.reg [⟨some 8, .p (.mov (.c (.int .i64 0))), none⟩])
  (.block 0 (.loop g58_macadamref03_carted_l0)))
  (.seq (.reg [⟨some 32, .p (.mov (.t 2)), none⟩,
    ⟨some 33, .p (.bslice 1 [.sl [] .exact] 1 [(0, .t 32)]), none⟩,
    ⟨some 6, .p (.mov (.t 33)), none⟩])
  .ret)) .skip))
  (.seq (.reg [⟨some 9, .p (.mov (.c (.sl [] .exact))), none⟩])
  (.seq (.reg [⟨some 34, .p (.lad 3 1), none⟩,
    ⟨some 35, .p (.loadL 3 1 false (some (.t 34))), none⟩,
    ⟨some 36, .p (.mov (.t 7)), none⟩,
    ⟨some 37, .p (.iaddr none 4 (.t 35) (.t 36)), none⟩,
    ⟨some 38, .p (.loadC 4 true (.t 37)), none⟩,
    ⟨some 10, .p (.allocL 10 [.int .i64 0, .int .i64 0, .int .i64 0, .int .i64 0]), none⟩,
    ⟨none, .p (.storeL 10 4 none (.t 38)), none⟩])
  (.seq (.seq (.reg [⟨some 11, .p (.mov (.c (.int .i64 0))), none⟩])
  (.block 2 (.loop g58_macadamref03_carted_l1)))
  (.seq (.reg [⟨some 66, .p (.mov (.t 9)), none⟩,
    ⟨some 6, .p (.mov (.t 66)), none⟩])
  .ret)))))))
def g58_macadamref03_carted : AFn := ⟨g58_macadamref03_carted_c, [.t 6], 3⟩

/-- macadam/stone.within -/
def g59_stone_within_c : ACode := (.seq (.reg [⟨some 6, .p (.mov (.c (.bool false))), none⟩])
  (.seq (.reg [⟨some 7, .p (.mov (.t 1)), none⟩,
    ⟨some 8, .p (.mov (.t 0)), none⟩,
    ⟨some 9, .p (.bin .leq (.t 7) (.t 8)), none⟩,
    ⟨some 10, .p (.mov (.t 9)), none⟩,
    ⟨some 11, .p (.mov (.t 0)), (some (10, true))⟩,
    ⟨some 12, .p (.mov (.t 2)), (some (10, true))⟩,
    ⟨some 13, .p (.bin .leq (.t 11) (.t 12)), (some (10, true))⟩,
    ⟨some 14, .p (.pick (.t 10) (.t 13) (.c (.bool false))), none⟩,
    ⟨some 6, .p (.mov (.t 14)), none⟩])
  .ret))
def g59_stone_within : AFn := ⟨g59_stone_within_c, [.t 6], 3⟩

/-- macadam/stone.isSpan -/
def g60_stone_isSpan_c : ACode := (.seq (.reg [⟨some 2, .p (.boxL 2 (.t 0)), none⟩,
    ⟨some 4, .p (.mov (.c (.bool false))), none⟩])
  (.seq (.reg [⟨some 5, .p (.lad 2 0), none⟩,
    ⟨some 6, .p (.loadL 2 1 false (some (.t 5))), none⟩,
    ⟨some 7, .p (.bin .leq (.c (.int .i64 0)) (.t 6)), none⟩,
    ⟨some 8, .p (.mov (.t 7)), none⟩,
    ⟨some 9, .p (.lad 2 0), (some (8, true))⟩,
    ⟨some 10, .p (.loadL 2 1 false (some (.t 9))), (some (8, true))⟩,
    ⟨some 11, .p (.lad 2 1), (some (8, true))⟩,
    ⟨some 12, .p (.loadL 2 1 false (some (.t 11))), (some (8, true))⟩,
    ⟨some 13, .p (.bin .leq (.t 10) (.t 12)), (some (8, true))⟩,
    ⟨some 14, .p (.pick (.t 8) (.t 13) (.c (.bool false))), none⟩,
    ⟨some 15, .p (.mov (.t 14)), none⟩,
    ⟨some 16, .p (.lad 2 1), (some (15, true))⟩,
    ⟨some 17, .p (.loadL 2 1 false (some (.t 16))), (some (15, true))⟩,
    ⟨some 18, .p (.mov (.t 1)), (some (15, true))⟩,
    ⟨some 19, .p (.bin .leq (.t 17) (.t 18)), (some (15, true))⟩,
    ⟨some 20, .p (.pick (.t 15) (.t 19) (.c (.bool false))), none⟩,
    ⟨some 4, .p (.mov (.t 20)), none⟩])
  .ret))
def g60_stone_isSpan : AFn := ⟨g60_stone_isSpan_c, [.t 4], 2⟩

/-- macadam/stone.isEnd -/
def g61_stone_isEnd_c : ACode := (.seq (.reg [⟨some 2, .p (.boxL 2 (.t 0)), none⟩,
    ⟨some 4, .p (.mov (.c (.bool false))), none⟩])
  (.seq (.reg [⟨some 5, .p (.mov (.t 1)), none⟩,
    ⟨some 6, .p (.bin .eql (.t 5) (.c (.int .i64 (-1)))), none⟩,
    ⟨some 7, .p (.mov (.t 6)), none⟩,
    ⟨some 8, .p (.loadL 2 6 true none), (some (7, false))⟩,
    ⟨some 9, .p (.mov (.t 1)), (some (7, false))⟩,
    ⟨some 10, .calli (.f 73) [.t 8, .t 9], (some (7, false))⟩,
    ⟨some 11, .p (.pick (.t 7) (.c (.bool true)) (.t 10)), none⟩,
    ⟨some 4, .p (.mov (.t 11)), none⟩])
  .ret))
def g61_stone_isEnd : AFn := ⟨g61_stone_isEnd_c, [.t 4], 2⟩

/-- macadam/stone.isCarter -/
def g62_stone_isCarter_c : ACode := (.seq (.reg [⟨some 2, .p (.mov (.c (.bool false))), none⟩])
  (.seq (.reg [⟨some 3, .p (.mov (.t 0)), none⟩,
    ⟨some 4, .calli (.f 59) [.t 3, .c (.int .i64 0), .c (.int .i64 3)], none⟩,
    ⟨some 2, .p (.mov (.t 4)), none⟩])
  .ret))
def g62_stone_isCarter : AFn := ⟨g62_stone_isCarter_c, [.t 2], 1⟩

/-- macadam/macadamref00.Amid -/
def g63_macadamref00_Amid_c : ACode := (.seq (.reg [⟨some 6, .p (.mov (.c (.bool false))), none⟩])
  (.seq (.reg [⟨some 7, .p (.mov (.t 1)), none⟩,
    ⟨some 8, .p (.mov (.t 0)), none⟩,
    ⟨some 9, .p (.bin .leq (.t 7) (.t 8)), none⟩,
    ⟨some 10, .p (.mov (.t 9)), none⟩,
    ⟨some 11, .p (.mov (.t 0)), (some (10, true))⟩,
    ⟨some 12, .p (.mov (.t 2)), (some (10, true))⟩,
    ⟨some 13, .p (.bin .leq (.t 11) (.t 12)), (some (10, true))⟩,
    ⟨some 14, .p (.pick (.t 10) (.t 13) (.c (.bool false))), none⟩,
    ⟨some 6, .p (.mov (.t 14)), none⟩])
  .ret))
def g63_macadamref00_Amid : AFn := ⟨g63_macadamref00_Amid_c, [.t 6], 3⟩

/-- macadam/macadamref03.end -/
def g64_macadamref03_end_c : ACode := (.seq (.reg [⟨some 2, .p (.boxL 2 (.t 0)), none⟩,
    ⟨some 4, .p (.mov (.c (.bool false))), none⟩])
  (.seq (.reg [⟨some 5, .p (.mov (.t 1)), none⟩,
    ⟨some 6, .p (.bin .eql (.t 5) (.c (.int .i64 (-1)))), none⟩,
    ⟨some 7, .p (.mov (.t 6)), none⟩,
    ⟨some 8, .p (.loadL 2 6 true none), (some (7, false))⟩,
    ⟨some 9, .p (.mov (.t 1)), (some (7, false))⟩,
    ⟨some 10, .calli (.f 76) [.t 8, .t 9], (some (7, false))⟩,
    ⟨some 11, .p (.pick (.t 7) (.c (.bool true)) (.t 10)), none⟩,
    ⟨some 4, .p (.mov (.t 11)), none⟩])
  .ret))
def g64_macadamref03_end : AFn := ⟨g64_macadamref03_end_c, [.t 4], 2⟩

/-- macadam/macadamref03.isCarter -/
def g65_macadamref03_isCarter_c : ACode := (.seq (.reg [⟨some 2, .p (.mov (.c (.bool false))), none⟩])
  (.seq (.reg [⟨some 3, .p (.mov (.t 0)), none⟩,
    ⟨some 4, .calli (.f 63) [.t 3, .c (.int .i64 0), .c (.int .i64 3)], none⟩,
    ⟨some 2, .p (.mov (.t 4)), none⟩])
  .ret))
def g65_macadamref03_isCarter : AFn := ⟨g65_macadamref03_isCarter_c, [.t 2], 1⟩

/-- macadam/stone.asked -/
def g66_stone_asked_c : ACode := (.seq (.reg [⟨some 2, .p (.boxL 2 (.t 0)), none⟩,
    ⟨some 4, .p (.allocL 4 [.sl [] .exact, .sl [] .exact, .int .i64 0, .int .i64 0, .int .i64 0, .int .i64 0, .nilf, .nilm]), none⟩,
    ⟨some 5, .p (.mov (.c (.int .i64 0))), none⟩])
  (.seq (.seq (.reg [⟨some 8, .p (.loadL 2 6 true none), none⟩,
    ⟨some 9, .calli (.f 17) [.t 8], none⟩,
    ⟨some 6, .p (.mov (.t 9)), none⟩])
  (.seq (.reg [⟨some 10, .p (.mov (.t 6)), none⟩,
    ⟨some 11, .p (.bin .neq (.t 10) (.c (.int .i64 0))), none⟩])
  (.cond (.t 11) (.seq (.reg [⟨some 12, .p (.build [.sl [] .exact, .sl [] .exact, .int .i64 0, .int .i64 0, .int .i64 0, .int .i64 0, .nilf, .nilm] []), none⟩,
    ⟨some 13, .p (.mov (.t 6)), none⟩,
    ⟨none, .p (.storeL 4 8 none (.t 12)), none⟩,
    ⟨some 5, .p (.mov (.t 13)), none⟩])
  .ret) .skip)))
  (.seq (.seq (.reg [⟨some 14, .p (.mov (.t 1)), none⟩,
    ⟨some 15, .p (.un .not (.t 14)), none⟩])
  (.cond (.t 15) (.seq (.reg [⟨some 16, .p (.build [.sl [] .exact, .sl [] .exact, .int .i64 0, .int .i64 0, .int .i64 0, .int .i64 0, .nilf, .nilm] []), none⟩,
    ⟨none, .p (.storeL 4 8 none (.t 16)), none⟩,
    ⟨some 5, .p (.mov (.c (.int .i64 31))), none⟩])
  .ret) .skip))
  (.seq (.reg [⟨some 17, .p (.loadL 2 6 true none), none⟩,
    ⟨some 18, .calli (.f 56) [.c (.sl [] .exact)], none⟩,
    ⟨some 19, .calli (.f 55) [.t 17, .t 18], none⟩,
    ⟨some 7, .p (.allocL 7 [.sl [] .exact, .sl [] .exact, .int .i64 0, .int .i64 0, .int .i64 0, .int .i64 0, .nilf, .nilm]), none⟩,
    ⟨none, .p (.storeL 7 8 none (.t 19)), none⟩])
  (.seq (.seq (.reg [⟨some 20, .p (.loadL 7 8 true none), none⟩,
    ⟨some 21, .calli (.f 57) [.t 20], none⟩,
    ⟨some 22, .p (.un .not (.t 21)), none⟩])
  (.cond (.t 22) (.seq (.reg [⟨some 23, .p (.loadL 7 8 true none), none⟩,
    ⟨none, .p (.storeL 4 8 none (.t 23)), none⟩,
    ⟨some 5, .p (.mov (.c (.int .i64 32))), none⟩])
  .ret) .skip))
  (.seq (.reg [⟨some 24, .p (.loadL 7 8 true none), none⟩,
    ⟨none, .p (.storeL 4 8 none (.t 24)), none⟩,
    ⟨some 5, .p (.mov (.c (.int .i64 0))), none⟩])
  .ret))))))
def g66_stone_asked : AFn := ⟨g66_stone_asked_c, [.cellL 4 8 true, .t 5], 2⟩

/-- macadam/stone.isMove -/
def g67_stone_isMove_c : ACode := (.seq (.reg [⟨some 2, .p (.boxL 2 (.t 0)), none⟩,
    ⟨some 4, .p (.mov (.c (.bool false))), none⟩])
  (.seq (.reg [⟨some 5, .p (.mov (.t 1)), none⟩,
    ⟨some 6, .p (.lad 2 1), none⟩,
    ⟨some 7, .p (.loadL 2 1 false (some (.t 6))), none⟩,
    ⟨some 8, .p (.len (.t 7)), none⟩,
    ⟨some 9, .p (.bin .sub (.t 8) (.c (.int .i64 1))), none⟩,
    ⟨some 10, .calli (.f 59) [.t 5, .c (.int .i64 0), .t 9], none⟩,
    ⟨some 4, .p (.mov (.t 10)), none⟩])
  .ret))
def g67_stone_isMove : AFn := ⟨g67_stone_isMove_c, [.t 4], 2⟩

/-- (macadam/stone.book).told -/
def g68_stone_book_told_b0 : ACode := (.block 1 (.seq (.reg [⟨some 12, .p (.loadC 1 false (.t 3)), none⟩,
    ⟨some 13, .p (.loadL 7 13 true none), none⟩,
    ⟨some 14, .calli (.t 12) [.t 13], none⟩,
    ⟨some 8, .p (.allocL 8 [.int .i64 0, .int .i64 0]), none⟩,
    ⟨none, .p (.storeL 8 2 none (.t 14)), none⟩])
  (.seq (.seq (.reg [⟨some 15, .h (.load 1 false (.t 6)), none⟩,
    ⟨some 16, .p (.un .not (.t 15)), none⟩])
  (.cond (.t 16) (.reg [⟨some 17, .p (.loadL 8 2 true none), none⟩,
    ⟨none, .h (.store 2 (.t 5) (.t 17)), none⟩,
    ⟨none, .h (.store 1 (.t 6) (.c (.bool true))), none⟩]) .skip))
  (.reg [⟨some 18, .p (.faddr 0 (.t 5)), none⟩,
    ⟨some 19, .h (.load 1 false (.t 18)), none⟩,
    ⟨some 20, .p (.lad 8 0), none⟩,
    ⟨some 21, .p (.loadL 8 1 false (some (.t 20))), none⟩,
    ⟨some 22, .p (.mn [.t 19, .t 21]), none⟩,
    ⟨some 23, .p (.faddr 1 (.t 5)), none⟩,
    ⟨some 24, .h (.load 1 false (.t 23)), none⟩,
    ⟨some 25, .p (.lad 8 1), none⟩,
    ⟨some 26, .p (.loadL 8 1 false (some (.t 25))), none⟩,
    ⟨some 27, .p (.mx [.t 24, .t 26]), none⟩,
    ⟨some 28, .p (.build [.int .i64 0, .int .i64 0] [(0, 1, .t 22), (1, 1, .t 27)]), none⟩,
    ⟨none, .h (.store 2 (.t 5) (.t 28)), none⟩]))))
def g68_stone_book_told_c : ACode := (.seq (.reg [⟨some 2, .p (.boxL 2 (.t 0)), none⟩,
    ⟨some 3, .p (.boxL 3 (.t 1)), none⟩,
    ⟨some 4, .p (.allocL 4 [.int .i64 0, .int .i64 0]), none⟩])
  (.seq (.reg [⟨some 5, .h (.alloc [.int .i64 0, .int .i64 0]), none⟩])
  (.seq (.reg [⟨some 6, .h (.alloc [.bool false]), none⟩,
    ⟨none, .h (.store 1 (.t 6) (.c (.bool false))), none⟩])
  (.seq (.seq (.reg [⟨some 9, .p (.loadL 2 8 true none), none⟩,
    ⟨some 10, .calli (.f 82) [.t 9], none⟩])
  (.block 0 (.frz [3] (.rangeF (.t 10) [11] (.reg [⟨some 7, .p (.allocL 7 [.int .i64 0, .int .i64 0, .int .i64 0, .int .i64 0, .int .i64 0, .int .i64 0, .int .i64 0, .int .i64 0, .int .i64 0, .int .i64 0, .int .i64 0, .int .i64 0, .int .i64 0]), none⟩,
    ⟨none, .p (.storeL 7 13 none (.t 11)), none⟩]) g68_stone_book_told_b0))))
  (.seq (.reg [⟨some 29, .h (.load 2 true (.t 5)), none⟩,
    ⟨none, .p (.storeL 4 2 none (.t 29)), none⟩])
  .ret)))))
def g68_stone_book_told : AFn := ⟨g68_stone_book_told_c, [.cellL 4 2 true], 2⟩

/-- macadam/stone.Yards$1 -/
def g69_stone_Yards_1_c : ACode := (.seq (.reg [⟨some 2, .p (.boxL 2 (.t 0)), none⟩,
    ⟨some 3, .p (.allocL 3 [.int .i64 0, .int .i64 0]), none⟩])
  (.seq (.reg [⟨some 4, .p (.loadC 1 false (.t 1)), none⟩,
    ⟨some 5, .p (.lad 2 0), none⟩,
    ⟨some 6, .p (.iaddr (some 5) 1 (.t 5) (.t 4)), none⟩,
    ⟨some 7, .p (.loadL 2 1 false (some (.t 6))), none⟩,
    ⟨some 8, .p (.loadC 1 false (.t 1)), none⟩,
    ⟨some 9, .p (.lad 2 0), none⟩,
    ⟨some 10, .p (.iaddr (some 5) 1 (.t 9) (.t 8)), none⟩,
    ⟨some 11, .p (.loadL 2 1 false (some (.t 10))), none⟩,
    ⟨some 12, .p (.build [.int .i64 0, .int .i64 0] [(0, 1, .t 7), (1, 1, .t 11)]), none⟩,
    ⟨none, .p (.storeL 3 2 none (.t 12)), none⟩])
  .ret))
def g69_stone_Yards_1 : AFn := ⟨g69_stone_Yards_1_c, [.cellL 3 2 true], 2⟩

/-- macadam/macadamref03.asked -/
def g70_macadamref03_asked_c : ACode := (.seq (.reg [⟨some 2, .p (.boxL 2 (.t 0)), none⟩,
    ⟨some 4, .p (.mov (.c (.sl [] .exact))), none⟩,
    ⟨some 5, .p (.mov (.c (.int .i64 0))), none⟩])
  (.seq (.seq (.reg [⟨some 8, .p (.loadL 2 6 true none), none⟩,
    ⟨some 9, .calli (.f 18) [.t 8], none⟩,
    ⟨some 6, .p (.mov (.t 9)), none⟩])
  (.seq (.reg [⟨some 10, .p (.mov (.t 6)), none⟩,
    ⟨some 11, .p (.bin .neq (.t 10) (.c (.int .i64 0))), none⟩])
  (.cond (.t 11) (.seq (.reg [⟨some 12, .p (.mov (.t 6)), none⟩,
    ⟨some 4, .p (.mov (.c (.sl [] .exact))), none⟩,
    ⟨some 5, .p (.mov (.t 12)), none⟩])
  .ret) .skip)))
  (.seq (.seq (.reg [⟨some 13, .p (.mov (.t 1)), none⟩,
    ⟨some 14, .p (.un .not (.t 13)), none⟩])
  (.cond (.t 14) (.seq (.reg [⟨some 4, .p (.mov (.c (.sl [] .exact))), none⟩,
    ⟨some 5, .p (.mov (.c (.int .i64 31))), none⟩])
  .ret) .skip))
  (.seq (.reg [⟨some 15, .p (.loadL 2 6 true none), none⟩,
    ⟨some 16, .calli (.f 58) [.t 15, .c (.int .i64 0), .c (.sl [] .exact)], none⟩,
    ⟨some 7, .p (.mov (.t 16)), none⟩])
  (.seq (.seq (.reg [⟨some 17, .p (.mov (.t 7)), none⟩,
    ⟨some 18, .p (.len (.t 17)), none⟩,
    ⟨some 19, .p (.bin .eql (.t 18) (.c (.int .i64 0))), none⟩])
  (.cond (.t 19) (.seq (.reg [⟨some 4, .p (.mov (.c (.sl [] .exact))), none⟩,
    ⟨some 5, .p (.mov (.c (.int .i64 32))), none⟩])
  .ret) .skip))
  (.seq (.reg [⟨some 20, .p (.mov (.t 7)), none⟩,
    ⟨some 4, .p (.mov (.t 20)), none⟩,
    ⟨some 5, .p (.mov (.c (.int .i64 0))), none⟩])
  .ret))))))
def g70_macadamref03_asked : AFn := ⟨g70_macadamref03_asked_c, [.t 4, .t 5], 2⟩

/-- macadam/macadamref03.isMove -/
def g71_macadamref03_isMove_c : ACode := (.seq (.reg [⟨some 2, .p (.boxL 2 (.t 0)), none⟩,
    ⟨some 4, .p (.mov (.c (.bool false))), none⟩])
  (.seq (.reg [⟨some 5, .p (.mov (.t 1)), none⟩,
    ⟨some 6, .p (.lad 2 1), none⟩,
    ⟨some 7, .p (.loadL 2 1 false (some (.t 6))), none⟩,
    ⟨some 8, .p (.len (.t 7)), none⟩,
    ⟨some 9, .p (.bin .sub (.t 8) (.c (.int .i64 1))), none⟩,
    ⟨some 10, .calli (.f 63) [.t 5, .c (.int .i64 0), .t 9], none⟩,
    ⟨some 4, .p (.mov (.t 10)), none⟩])
  .ret))
def g71_macadamref03_isMove : AFn := ⟨g71_macadamref03_isMove_c, [.t 4], 2⟩

/-- macadam/macadamref03.ends -/
def g72_macadamref03_ends_l0 : ACode := (.seq (.seq (.reg [⟨some 9, .p (.mov (.t 4)), none⟩,
    ⟨some 10, .p (.mov (.t 0)), none⟩,
    ⟨some 11, .p (.len (.t 10)), none⟩,
    ⟨some 12, .p (.bin .lss (.t 9) (.t 11)), none⟩])
  (.cond (.t 12) .skip (.exit 0)))
  (.seq (.block 1 (.reg [⟨some 15, .p (.loadL 3 2 true none), none⟩,
    ⟨some 16, .p (.mov (.t 0)), none⟩,
    ⟨some 17, .p (.mov (.t 4)), none⟩,
    ⟨some 18, .p (.iaddr none 1 (.t 16) (.t 17)), none⟩,
    ⟨some 19, .p (.loadC 1 false (.t 18)), none⟩,
    ⟨some 20, .calli (.f 41) [.t 19], none⟩,
    ⟨some 21, .calli (.f 93) [.t 15, .t 20], none⟩,
    ⟨none, .p (.storeL 3 2 none (.t 21)), none⟩]))
  (.reg [⟨some 13, .p (.mov (.t 4)), none⟩,
    ⟨some 14, .p (.bin .add (.t 13) (.c (.int .i64 1))), none⟩,
    ⟨some 4, .p (.mov (.t 14)), none⟩])))
def g72_macadamref03_ends_c : ACode := (.seq (.reg [⟨some 2, .p (.allocL 2 [.int .i64 0, .int .i64 0]), none⟩])
  (.seq (.reg [⟨some 5, .p (.mov (.t 0)), none⟩,
    ⟨some 6, .p (.iaddr none 1 (.t 5) (.c (.int .i64 0))), none⟩,
    ⟨some 7, .p (.loadC 1 false (.t 6)), none⟩,
    ⟨some 8, .calli (.f 41) [.t 7], none⟩,
    ⟨some 3, .p (.allocL 3 [.int .i64 0, .int .i64 0]), none⟩,
    ⟨none, .p (.storeL 3 2 none (.t 8)), none⟩])
  (.seq (.seq (.reg [⟨some 4, .p (.mov (.c (.int .i64 0))), none⟩])
  (.block 0 (.loop g72_macadamref03_ends_l0)))
  (.seq (.reg [⟨some 22, .p (.loadL 3 2 true none), none⟩,
    ⟨none, .p (.storeL 2 2 none (.t 22)), none⟩])
  .ret))))
def g72_macadamref03_ends : AFn := ⟨g72_macadamref03_ends_c, [.cellL 2 2 true], 1⟩

/-- macadam/stone.isHeap -/
def g73_stone_isHeap_c : ACode := (.seq (.reg [⟨some 2, .p (.boxL 2 (.t 0)), none⟩,
    ⟨some 4, .p (.mov (.c (.bool false))), none⟩])
  (.seq (.reg [⟨some 5, .p (.mov (.t 1)), none⟩,
    ⟨some 6, .p (.lad 2 0), none⟩,
    ⟨some 7, .p (.loadL 2 1 false (some (.t 6))), none⟩,
    ⟨some 8, .p (.len (.t 7)), none⟩,
    ⟨some 9, .p (.bin .sub (.t 8) (.c (.int .i64 1))), none⟩,
    ⟨some 10, .calli (.f 59) [.t 5, .c (.int .i64 0), .t 9], none⟩,
    ⟨some 4, .p (.mov (.t 10)), none⟩])
  .ret))
def g73_stone_isHeap : AFn := ⟨g73_stone_isHeap_c, [.t 4], 2⟩

/-- macadam/stone.Heap$1 -/
def g74_stone_Heap_1_c : ACode := (.seq (.reg [⟨some 4, .p (.boxL 4 (.t 0)), none⟩,
    ⟨some 5, .p (.allocL 5 [.int .i64 0, .int .i64 0]), none⟩])
  (.seq (.reg [⟨some 7, .p (.loadC 8 true (.t 1)), none⟩,
    ⟨some 8, .p (.lad 4 0), none⟩,
    ⟨some 9, .p (.loadL 4 5 true (some (.t 8))), none⟩,
    ⟨some 10, .p (.loadC 1 false (.t 2)), none⟩,
    ⟨some 11, .p (.loadC 1 false (.t 3)), none⟩,
    ⟨some 12, .calli (.f 75) [.t 7, .t 9, .t 10, .t 11], none⟩,
    ⟨some 6, .p (.mov (.t 12)), none⟩])
  (.seq (.reg [⟨some 13, .p (.loadC 1 false (.t 2)), none⟩,
    ⟨some 14, .p (.lad 4 5), none⟩,
    ⟨some 15, .p (.iaddr (some 4) 2 (.t 14) (.t 13)), none⟩,
    ⟨some 16, .p (.faddr 0 (.t 15)), none⟩,
    ⟨some 17, .p (.loadL 4 1 false (some (.t 16))), none⟩,
    ⟨some 18, .p (.mov (.t 6)), none⟩,
    ⟨some 19, .p (.bin .add (.t 17) (.t 18)), none⟩,
    ⟨some 20, .p (.loadC 1 false (.t 2)), none⟩,
    ⟨some 21, .p (.lad 4 5), none⟩,
    ⟨some 22, .p (.iaddr (some 4) 2 (.t 21) (.t 20)), none⟩,
    ⟨some 23, .p (.faddr 1 (.t 22)), none⟩,
    ⟨some 24, .p (.loadL 4 1 false (some (.t 23))), none⟩,
    ⟨some 25, .p (.mov (.t 6)), none⟩,
    ⟨some 26, .p (.bin .add (.t 24) (.t 25)), none⟩,
    ⟨some 27, .p (.build [.int .i64 0, .int .i64 0] [(0, 1, .t 19), (1, 1, .t 26)]), none⟩,
    ⟨none, .p (.storeL 5 2 none (.t 27)), none⟩])
  .ret)))
def g74_stone_Heap_1 : AFn := ⟨g74_stone_Heap_1_c, [.cellL 5 2 true], 4⟩

/-- (macadam/stone.book).more -/
def g75_stone_book_more_l0 : ACode := (.seq (.reg [⟨some 37, .p (.bin .lss (.t 36) (.c (.int .i64 2))), none⟩])
  (.seq (.cond (.t 37) .skip (.exit 2))
  (.seq (.block 3 (.seq (.reg [⟨some 38, .p (.index 2 1 false (.t 35) (.t 36)), none⟩,
    ⟨some 13, .p (.mov (.t 38)), none⟩])
  (.reg [⟨some 39, .p (.mov (.t 9)), none⟩,
    ⟨some 40, .p (.mov (.t 13)), none⟩,
    ⟨some 41, .p (.lad 4 0), none⟩,
    ⟨some 42, .p (.faddr 1 (.t 41)), none⟩,
    ⟨some 43, .p (.loadL 4 1 false (some (.t 42))), none⟩,
    ⟨some 44, .p (.mov (.t 10)), none⟩,
    ⟨some 45, .p (.iaddr none 4 (.t 43) (.t 44)), none⟩,
    ⟨some 46, .p (.loadC 4 true (.t 45)), none⟩,
    ⟨some 47, .p (.mov (.t 2)), none⟩,
    ⟨some 48, .p (.mov (.t 10)), none⟩,
    ⟨some 49, .p (.ladi 5 5 1 (.t 48)), none⟩,
    ⟨some 50, .p (.loadL 5 1 false (some (.t 49))), none⟩,
    ⟨some 51, .calli (.t 40) [.t 46, .t 47, .t 50], none⟩,
    ⟨some 52, .p (.bslice 1 [.int .i64 0] 1 [(0, .t 51)]), none⟩,
    ⟨some 53, .h (.append 1 8 (.t 39) (.t 52)), none⟩,
    ⟨some 9, .p (.mov (.t 53)), none⟩])))
  (.reg [⟨some 54, .p (.bin .add (.t 36) (.c (.int .i64 1))), none⟩,
    ⟨some 36, .p (.mov (.t 54)), none⟩]))))
def g75_stone_book_more_l1 : ACode := (.seq (.reg [⟨some 19, .p (.bin .lss (.t 18) (.t 17)), none⟩])
  (.seq (.cond (.t 19) .skip (.exit 0))
  (.seq (.block 1 (.seq (.reg [⟨some 20, .p (.mov (.t 18)), none⟩,
    ⟨some 10, .p (.mov (.t 20)), none⟩])
  (.seq (.seq (.reg [⟨some 21, .p (.mov (.t 2)), none⟩,
    ⟨some 22, .p (.mov (.t 10)), none⟩,
    ⟨some 23, .p (.bin .add (.t 22) (.c (.int .i64 1))), none⟩,
    ⟨some 24, .p (.build [.int .i64 0, .int .i64 0] [(0, 1, .t 21), (1, 1, .t 23)]), none⟩,
    ⟨some 11, .p (.allocL 11 [.int .i64 0, .int .i64 0]), none⟩,
    ⟨none, .p (.storeL 11 2 none (.t 24)), none⟩])
  (.seq (.reg [⟨some 25, .p (.loadL 11 2 true none), none⟩,
    ⟨some 26, .p (.loadC 2 true (.g 0)), none⟩,
    ⟨some 27, .p (.eqn (some 2) false (.t 25) (.t 26)), none⟩,
    ⟨some 28, .p (.mov (.t 27)), none⟩,
    ⟨some 29, .p (.lad 4 7), (some (28, false))⟩,
    ⟨some 30, .p (.loadL 4 1 false (some (.t 29))), (some (28, false))⟩,
    ⟨some 31, .p (.loadL 11 2 true none), (some (28, false))⟩,
    ⟨some 32, .p (.lookupV 2 (.bool false) (.t 30) (.t 31)), (some (28, false))⟩,
    ⟨some 33, .p (.un .not (.t 32)), (some (28, false))⟩,
    ⟨some 34, .p (.pick (.t 28) (.c (.bool true)) (.t 33)), none⟩])
  (.cond (.t 34) (.exit 1) .skip)))
  (.seq (.reg [⟨some 35, .p (.loadC 2 true (.g 1)), none⟩,
    ⟨some 36, .p (.mov (.c (.int .i64 0))), none⟩])
  (.block 2 (.loop g75_stone_book_more_l0))))))
  (.reg [⟨some 55, .p (.bin .add (.t 18) (.c (.int .i64 1))), none⟩,
    ⟨some 18, .p (.mov (.t 55)), none⟩]))))
def g75_stone_book_more_c : ACode := (.seq (.reg [⟨some 4, .p (.boxL 4 (.t 0)), none⟩,
    ⟨some 5, .p (.boxL 5 (.t 1)), none⟩,
    ⟨some 8, .p (.mov (.c (.int .i64 0))), none⟩])
  (.seq (.seq (.reg [⟨some 14, .p (.loadL 5 5 true none), none⟩,
    ⟨some 15, .calli (.f 94) [], none⟩,
    ⟨some 16, .p (.eqn (some 5) false (.t 14) (.t 15)), none⟩])
  (.cond (.t 16) (.seq (.reg [⟨some 8, .p (.mov (.c (.int .i64 0))), none⟩])
  .ret) .skip))
  (.seq (.reg [⟨some 9, .p (.mov (.c (.sl [] .exact))), none⟩])
  (.seq (.seq (.reg [⟨some 17, .p (.mov (.t 3)), none⟩,
    ⟨some 18, .p (.mov (.c (.int .i64 0))), none⟩])
  (.block 0 (.loop g75_stone_book_more_l1)))
  (.seq (.reg [⟨some 56, .p (.mov (.t 9)), none⟩,
    ⟨some 57, .calli (.f 95) [.t 56], none⟩,
    ⟨some 8, .p (.mov (.t 57)), none⟩])
  .ret)))))
def g75_stone_book_more : AFn := ⟨g75_stone_book_more_c, [.t 8], 4⟩

/-- macadam/macadamref03.isHeap -/
def g76_macadamref03_isHeap_c : ACode := (.seq (.reg [⟨some 2, .p (.boxL 2 (.t 0)), none⟩,
    ⟨some 4, .p (.mov (.c (.bool false))), none⟩])
  (.seq (.reg [⟨some 5, .p (.mov (.t 1)), none⟩,
    ⟨some 6, .p (.lad 2 0), none⟩,
    ⟨some 7, .p (.loadL 2 1 false (some (.t 6))), none⟩,
    ⟨some 8, .p (.len (.t 7)), none⟩,
    ⟨some 9, .p (.bin .sub (.t 8) (.c (.int .i64 1))), none⟩,
    ⟨some 10, .calli (.f 63) [.t 5, .c (.int .i64 0), .t 9], none⟩,
    ⟨some 4, .p (.mov (.t 10)), none⟩])
  .ret))
def g76_macadamref03_isHeap : AFn := ⟨g76_macadamref03_isHeap_c, [.t 4], 2⟩

end Av
end
