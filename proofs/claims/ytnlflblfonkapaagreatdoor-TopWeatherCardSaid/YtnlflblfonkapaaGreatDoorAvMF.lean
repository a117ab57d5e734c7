/- The lowered text, first part: data. -/
import Derived.Test.YtnlflblfonkapaaGreatDoorAvMZ
set_option linter.all false
set_option linter.unusedSectionVars false
set_option linter.unusedVariables false
set_option linter.unusedSimpArgs false
set_option linter.unnecessarySimpa false
section
/- The lowered text of the program, printed by a program of this session out of the translation; IrC holds it against the translation. -/
namespace Av
open Go (IntKind BinOp UnOp)
/-- macadam/macadamtop.TopWeather -/
def g3_macadamtop_TopWeather_c : ACode := (.seq (.reg [⟨some 2, .p (.boxL 2 (.t 0)), none⟩,
    ⟨some 4, .p (.mov (.c (.bool false))), none⟩])
  (.seq (.seq (.reg [⟨some 27, .p (.loadL 2 7 true none), none⟩,
    ⟨some 28, .calli (.f 4) [.t 27], none⟩,
    ⟨some 29, .p (.bin .neq (.t 28) (.c (.int .i64 0))), none⟩,
    ⟨some 30, .p (.mov (.t 29)), none⟩,
    ⟨some 31, .p (.lad 2 0), (some (30, false))⟩,
    ⟨some 32, .p (.loadL 2 1 false (some (.t 31))), (some (30, false))⟩,
    ⟨some 33, .p (.len (.t 32)), (some (30, false))⟩,
    ⟨some 34, .calli (.f 5) [.t 33, .c (.int .i64 1), .c (.int .i64 3)], (some (30, false))⟩,
    ⟨some 35, .p (.un .not (.t 34)), (some (30, false))⟩,
    ⟨some 36, .p (.pick (.t 30) (.c (.bool true)) (.t 35)), none⟩,
    ⟨some 37, .p (.mov (.t 36)), none⟩,
    ⟨some 38, .p (.lad 2 5), (some (37, false))⟩,
    ⟨some 39, .p (.loadL 2 1 false (some (.t 38))), (some (37, false))⟩,
    ⟨some 40, .p (.len (.t 39)), (some (37, false))⟩,
    ⟨some 41, .p (.bin .gtr (.t 40) (.c (.int .i64 4))), (some (37, false))⟩,
    ⟨some 42, .p (.pick (.t 37) (.c (.bool true)) (.t 41)), none⟩])
  (.cond (.t 42) (.seq (.reg [⟨some 43, .calli (.f 6) [], none⟩,
    ⟨some 4, .p (.mov (.t 43)), none⟩])
  .ret) .skip))
  (.seq (.reg [⟨some 44, .p (.loadL 2 7 true none), none⟩,
    ⟨some 45, .calli (.f 7) [.t 44], none⟩,
    ⟨some 5, .p (.allocL 5 [.sl [] .exact, .int .i64 0, .int .i64 0, .int .i64 0, .int .i64 0, .sl [] .exact, .int .i64 0]), none⟩,
    ⟨none, .p (.storeL 5 7 none (.t 45)), none⟩])
  (.seq (.reg [⟨some 46, .p (.loadL 5 7 true none), none⟩,
    ⟨some 47, .calli (.f 8) [.t 46], none⟩,
    ⟨some 6, .p (.allocL 6 [.sl [] .exact, .int .i64 0, .int .i64 0, .int .i64 0, .int .i64 0, .int .i64 0, .int .i64 0, .sl [] .exact, .sl [] .exact, .sl [] .exact, .int .i64 0]), none⟩,
    ⟨none, .p (.storeL 6 11 none (.t 47)), none⟩])
  (.seq (.seq (.reg [⟨some 48, .p (.loadL 5 7 true none), none⟩,
    ⟨some 49, .calli (.f 4) [.t 48], none⟩,
    ⟨some 50, .p (.bin .neq (.t 49) (.c (.int .i64 0))), none⟩,
    ⟨some 51, .p (.mov (.t 50)), none⟩,
    ⟨some 52, .p (.loadL 6 11 true none), (some (51, false))⟩,
    ⟨some 53, .calli (.f 9) [.t 52], (some (51, false))⟩,
    ⟨some 54, .p (.bin .neq (.t 53) (.c (.int .i64 0))), (some (51, false))⟩,
    ⟨some 55, .p (.pick (.t 51) (.c (.bool true)) (.t 54)), none⟩])
  (.cond (.t 55) (.seq (.reg [⟨some 56, .calli (.f 6) [], none⟩,
    ⟨some 4, .p (.mov (.t 56)), none⟩])
  .ret) .skip))
  (.seq (.reg [⟨some 58, .p (.loadL 5 7 true none), none⟩,
    ⟨some 59, .calli (.f 10) [.t 58], none⟩,
    ⟨some 57, .p (.mov (.t 59)), none⟩,
    ⟨some 60, .p (.extract (.t 57) 0), none⟩,
    ⟨some 61, .p (.extract (.t 57) 1), none⟩,
    ⟨some 7, .p (.mov (.t 60)), none⟩,
    ⟨some 8, .p (.mov (.t 61)), none⟩])
  (.seq (.reg [⟨some 63, .p (.loadL 6 11 true none), none⟩,
    ⟨some 64, .calli (.f 11) [.t 63], none⟩,
    ⟨some 62, .p (.mov (.t 64)), none⟩,
    ⟨some 65, .p (.extract (.t 62) 0), none⟩,
    ⟨some 66, .p (.extract (.t 62) 1), none⟩,
    ⟨some 9, .p (.mov (.t 65)), none⟩,
    ⟨some 10, .p (.mov (.t 66)), none⟩])
  (.seq (.reg [⟨some 68, .p (.loadL 5 7 true none), none⟩,
    ⟨some 69, .calli (.f 12) [.t 68], none⟩,
    ⟨some 67, .p (.mov (.t 69)), none⟩,
    ⟨some 70, .p (.extract (.t 67) 0), none⟩,
    ⟨some 71, .p (.extract (.t 67) 1), none⟩,
    ⟨some 11, .p (.mov (.t 70)), none⟩,
    ⟨some 12, .p (.mov (.t 71)), none⟩])
  (.seq (.reg [⟨some 73, .p (.loadL 6 11 true none), none⟩,
    ⟨some 74, .calli (.f 13) [.t 73], none⟩,
    ⟨some 72, .p (.mov (.t 74)), none⟩,
    ⟨some 75, .p (.extract (.t 72) 0), none⟩,
    ⟨some 76, .p (.extract (.t 72) 1), none⟩,
    ⟨some 13, .p (.mov (.t 75)), none⟩,
    ⟨some 14, .p (.mov (.t 76)), none⟩])
  (.seq (.seq (.reg [⟨some 77, .p (.mov (.t 8)), none⟩,
    ⟨some 78, .p (.bin .neq (.t 77) (.c (.int .i64 0))), none⟩,
    ⟨some 79, .p (.mov (.t 78)), none⟩,
    ⟨some 80, .p (.mov (.t 10)), (some (79, false))⟩,
    ⟨some 81, .p (.bin .neq (.t 80) (.c (.int .i64 0))), (some (79, false))⟩,
    ⟨some 82, .p (.pick (.t 79) (.c (.bool true)) (.t 81)), none⟩,
    ⟨some 83, .p (.mov (.t 82)), none⟩,
    ⟨some 84, .p (.mov (.t 12)), (some (83, false))⟩,
    ⟨some 85, .p (.bin .neq (.t 84) (.c (.int .i64 0))), (some (83, false))⟩,
    ⟨some 86, .p (.pick (.t 83) (.c (.bool true)) (.t 85)), none⟩,
    ⟨some 87, .p (.mov (.t 86)), none⟩,
    ⟨some 88, .p (.mov (.t 14)), (some (87, false))⟩,
    ⟨some 89, .p (.bin .neq (.t 88) (.c (.int .i64 0))), (some (87, false))⟩,
    ⟨some 90, .p (.pick (.t 87) (.c (.bool true)) (.t 89)), none⟩,
    ⟨some 91, .p (.mov (.t 90)), none⟩,
    ⟨some 92, .p (.mov (.t 7)), (some (91, false))⟩,
    ⟨some 93, .p (.mov (.t 9)), (some (91, false))⟩,
    ⟨some 94, .p (.eqn none true (.t 92) (.t 93)), (some (91, false))⟩,
    ⟨some 95, .p (.pick (.t 91) (.c (.bool true)) (.t 94)), none⟩,
    ⟨some 96, .p (.mov (.t 95)), none⟩,
    ⟨some 97, .p (.mov (.t 11)), (some (96, false))⟩,
    ⟨some 98, .p (.mov (.t 13)), (some (96, false))⟩,
    ⟨some 99, .calli (.f 14) [.t 97, .t 98], (some (96, false))⟩,
    ⟨some 100, .p (.un .not (.t 99)), (some (96, false))⟩,
    ⟨some 101, .p (.pick (.t 96) (.c (.bool true)) (.t 100)), none⟩])
  (.cond (.t 101) (.seq (.reg [⟨some 4, .p (.mov (.c (.bool false))), none⟩])
  .ret) .skip))
  (.seq (.seq (.reg [⟨some 102, .p (.mov (.t 7)), none⟩,
    ⟨some 103, .p (.un .not (.t 102)), none⟩])
  (.cond (.t 103) (.seq (.reg [⟨some 104, .calli (.f 6) [], none⟩,
    ⟨some 4, .p (.mov (.t 104)), none⟩])
  .ret) .skip))
  (.seq (.reg [⟨some 106, .p (.loadL 5 7 true none), none⟩,
    ⟨some 107, .calli (.f 15) [.t 106, .c (.int .i64 0)], none⟩,
    ⟨some 105, .p (.mov (.t 107)), none⟩,
    ⟨some 108, .p (.extract (.t 105) 0), none⟩,
    ⟨some 109, .p (.extract (.t 105) 1), none⟩,
    ⟨some 15, .p (.allocL 15 [.int .i64 0, .int .i64 0]), none⟩,
    ⟨none, .p (.storeL 15 2 none (.t 108)), none⟩,
    ⟨some 8, .p (.mov (.t 109)), none⟩])
  (.seq (.reg [⟨some 111, .p (.loadL 6 11 true none), none⟩,
    ⟨some 112, .calli (.f 16) [.t 111, .c (.int .i64 0), .c (.int .i64 0)], none⟩,
    ⟨some 110, .p (.mov (.t 112)), none⟩,
    ⟨some 113, .p (.extract (.t 110) 0), none⟩,
    ⟨some 114, .p (.extract (.t 110) 1), none⟩,
    ⟨some 16, .p (.allocL 16 [.int .i64 0, .int .i64 0]), none⟩,
    ⟨none, .p (.storeL 16 2 none (.t 113)), none⟩,
    ⟨some 10, .p (.mov (.t 114)), none⟩])
  (.seq (.reg [⟨some 116, .p (.loadL 5 7 true none), none⟩,
    ⟨some 117, .calli (.f 17) [.t 116, .c (.int .i64 0)], none⟩,
    ⟨some 115, .p (.mov (.t 117)), none⟩,
    ⟨some 118, .p (.extract (.t 115) 0), none⟩,
    ⟨some 119, .p (.extract (.t 115) 1), none⟩,
    ⟨some 17, .p (.allocL 17 [.int .i64 0, .int .i64 0]), none⟩,
    ⟨none, .p (.storeL 17 2 none (.t 118)), none⟩,
    ⟨some 12, .p (.mov (.t 119)), none⟩])
  (.seq (.reg [⟨some 121, .p (.loadL 6 11 true none), none⟩,
    ⟨some 122, .calli (.f 18) [.t 121, .c (.int .i64 0)], none⟩,
    ⟨some 120, .p (.mov (.t 122)), none⟩,
    ⟨some 123, .p (.extract (.t 120) 0), none⟩,
    ⟨some 124, .p (.extract (.t 120) 1), none⟩,
    ⟨some 18, .p (.allocL 18 [.int .i64 0, .int .i64 0]), none⟩,
    ⟨none, .p (.storeL 18 2 none (.t 123)), none⟩,
    ⟨some 14, .p (.mov (.t 124)), none⟩])
  (.seq (.seq (.reg [⟨some 125, .p (.mov (.t 8)), none⟩,
    ⟨some 126, .p (.bin .neq (.t 125) (.c (.int .i64 0))), none⟩,
    ⟨some 127, .p (.mov (.t 126)), none⟩,
    ⟨some 128, .p (.mov (.t 10)), (some (127, false))⟩,
    ⟨some 129, .p (.bin .neq (.t 128) (.c (.int .i64 0))), (some (127, false))⟩,
    ⟨some 130, .p (.pick (.t 127) (.c (.bool true)) (.t 129)), none⟩,
    ⟨some 131, .p (.mov (.t 130)), none⟩,
    ⟨some 132, .p (.mov (.t 12)), (some (131, false))⟩,
    ⟨some 133, .p (.bin .neq (.t 132) (.c (.int .i64 0))), (some (131, false))⟩,
    ⟨some 134, .p (.pick (.t 131) (.c (.bool true)) (.t 133)), none⟩,
    ⟨some 135, .p (.mov (.t 134)), none⟩,
    ⟨some 136, .p (.mov (.t 14)), (some (135, false))⟩,
    ⟨some 137, .p (.bin .neq (.t 136) (.c (.int .i64 0))), (some (135, false))⟩,
    ⟨some 138, .p (.pick (.t 135) (.c (.bool true)) (.t 137)), none⟩,
    ⟨some 139, .p (.mov (.t 138)), none⟩,
    ⟨some 140, .p (.loadL 15 2 true none), (some (139, false))⟩,
    ⟨some 141, .p (.loadL 16 2 true none), (some (139, false))⟩,
    ⟨some 142, .p (.eqn (some 2) true (.t 140) (.t 141)), (some (139, false))⟩,
    ⟨some 143, .p (.pick (.t 139) (.c (.bool true)) (.t 142)), none⟩,
    ⟨some 144, .p (.mov (.t 143)), none⟩,
    ⟨some 145, .p (.loadL 17 2 true none), (some (144, false))⟩,
    ⟨some 146, .p (.loadL 18 2 true none), (some (144, false))⟩,
    ⟨some 147, .p (.eqn (some 2) true (.t 145) (.t 146)), (some (144, false))⟩,
    ⟨some 148, .p (.pick (.t 144) (.c (.bool true)) (.t 147)), none⟩])
  (.cond (.t 148) (.seq (.reg [⟨some 4, .p (.mov (.c (.bool false))), none⟩])
  .ret) .skip))
  (.seq (.reg [⟨some 150, .p (.loadL 5 7 true none), none⟩,
    ⟨some 151, .calli (.f 19) [.t 150], none⟩,
    ⟨some 149, .p (.mov (.t 151)), none⟩,
    ⟨some 152, .p (.extract (.t 149) 0), none⟩,
    ⟨some 153, .p (.extract (.t 149) 1), none⟩,
    ⟨some 19, .p (.mov (.t 152)), none⟩,
    ⟨some 8, .p (.mov (.t 153)), none⟩])
  (.seq (.reg [⟨some 155, .p (.loadL 6 11 true none), none⟩,
    ⟨some 156, .calli (.f 20) [.t 155, .c (.int .i64 0)], none⟩,
    ⟨some 154, .p (.mov (.t 156)), none⟩,
    ⟨some 157, .p (.extract (.t 154) 0), none⟩,
    ⟨some 158, .p (.extract (.t 154) 1), none⟩,
    ⟨some 20, .p (.mov (.t 157)), none⟩,
    ⟨some 10, .p (.mov (.t 158)), none⟩])
  (.seq (.reg [⟨some 160, .p (.loadL 5 7 true none), none⟩,
    ⟨some 161, .calli (.f 21) [.t 160], none⟩,
    ⟨some 159, .p (.mov (.t 161)), none⟩,
    ⟨some 162, .p (.extract (.t 159) 0), none⟩,
    ⟨some 163, .p (.extract (.t 159) 1), none⟩,
    ⟨some 12, .p (.mov (.t 163)), none⟩])
  (.seq (.reg [⟨some 165, .p (.loadL 6 11 true none), none⟩,
    ⟨some 166, .calli (.f 22) [.t 165, .c (.int .i64 0)], none⟩,
    ⟨some 164, .p (.mov (.t 166)), none⟩,
    ⟨some 167, .p (.extract (.t 164) 0), none⟩,
    ⟨some 168, .p (.extract (.t 164) 1), none⟩,
    ⟨some 14, .p (.mov (.t 168)), none⟩])
  (.seq (.reg [⟨some 169, .p (.mov (.t 1)), none⟩,
    ⟨some 170, .calli (.f 23) [.t 169, .c (.int .i64 70)], none⟩,
    ⟨some 21, .p (.mov (.t 170)), none⟩])
  (.seq (.reg [⟨some 172, .p (.loadL 5 7 true none), none⟩,
    ⟨some 173, .p (.mov (.t 21)), none⟩,
    ⟨some 174, .p (.build [.int .i64 0, .int .i64 0, .int .i64 0] [(1, 1, .t 173)]), none⟩,
    ⟨some 175, .calli (.f 24) [.t 172, .t 174], none⟩,
    ⟨some 171, .p (.mov (.t 175)), none⟩,
    ⟨some 176, .p (.extract (.t 171) 0), none⟩,
    ⟨some 177, .p (.extract (.t 171) 1), none⟩,
    ⟨some 22, .p (.mov (.t 176)), none⟩,
    ⟨some 23, .p (.mov (.t 177)), none⟩])
  (.seq (.reg [⟨some 179, .p (.loadL 6 11 true none), none⟩,
    ⟨some 180, .p (.mov (.t 21)), none⟩,
    ⟨some 181, .p (.build [.int .i64 0, .int .i64 0, .int .i64 0, .int .i64 0] [(2, 1, .t 180)]), none⟩,
    ⟨some 182, .calli (.f 25) [.t 179, .t 181], none⟩,
    ⟨some 178, .p (.mov (.t 182)), none⟩,
    ⟨some 183, .p (.extract (.t 178) 0), none⟩,
    ⟨some 184, .p (.extract (.t 178) 1), none⟩,
    ⟨some 24, .p (.mov (.t 183)), none⟩,
    ⟨some 25, .p (.mov (.t 184)), none⟩])
  (.seq (.reg [⟨some 185, .p (.bslice 1 [.int .i64 0] 4 [(0, .c (.int .i64 0)), (1, .c (.int .i64 0)), (2, .c (.int .i64 2)), (3, .c (.int .i64 1))]), none⟩,
    ⟨some 26, .p (.mov (.t 185)), none⟩])
  (.seq (.reg [⟨some 186, .p (.mov (.t 8)), none⟩,
    ⟨some 187, .p (.bin .eql (.t 186) (.c (.int .i64 0))), none⟩,
    ⟨some 188, .p (.mov (.t 187)), none⟩,
    ⟨some 189, .p (.mov (.t 10)), (some (188, true))⟩,
    ⟨some 190, .p (.bin .eql (.t 189) (.c (.int .i64 0))), (some (188, true))⟩,
    ⟨some 191, .p (.pick (.t 188) (.t 190) (.c (.bool false))), none⟩,
    ⟨some 192, .p (.mov (.t 191)), none⟩,
    ⟨some 193, .p (.mov (.t 23)), (some (192, true))⟩,
    ⟨some 194, .p (.bin .eql (.t 193) (.c (.int .i64 0))), (some (192, true))⟩,
    ⟨some 195, .p (.pick (.t 192) (.t 194) (.c (.bool false))), none⟩,
    ⟨some 196, .p (.mov (.t 195)), none⟩,
    ⟨some 197, .p (.mov (.t 25)), (some (196, true))⟩,
    ⟨some 198, .p (.bin .eql (.t 197) (.c (.int .i64 0))), (some (196, true))⟩,
    ⟨some 199, .p (.pick (.t 196) (.t 198) (.c (.bool false))), none⟩,
    ⟨some 200, .p (.mov (.t 199)), none⟩,
    ⟨some 201, .p (.mov (.t 19)), (some (200, true))⟩,
    ⟨some 202, .calli (.f 5) [.t 201, .c (.int .i64 1), .c (.int .i64 3)], (some (200, true))⟩,
    ⟨some 203, .p (.pick (.t 200) (.t 202) (.c (.bool false))), none⟩,
    ⟨some 204, .p (.mov (.t 203)), none⟩,
    ⟨some 205, .p (.mov (.t 20)), (some (204, true))⟩,
    ⟨some 206, .p (.mov (.t 26)), (some (204, true))⟩,
    ⟨some 207, .p (.mov (.t 19)), (some (204, true))⟩,
    ⟨some 208, .p (.iaddr none 1 (.t 206) (.t 207)), (some (204, true))⟩,
    ⟨some 209, .p (.loadC 1 false (.t 208)), (some (204, true))⟩,
    ⟨some 210, .p (.bin .eql (.t 205) (.t 209)), (some (204, true))⟩,
    ⟨some 211, .p (.pick (.t 204) (.t 210) (.c (.bool false))), none⟩,
    ⟨some 212, .p (.mov (.t 211)), none⟩,
    ⟨some 213, .p (.mov (.t 12)), (some (212, true))⟩,
    ⟨some 214, .p (.mov (.t 14)), (some (212, true))⟩,
    ⟨some 215, .p (.bin .eql (.t 213) (.t 214)), (some (212, true))⟩,
    ⟨some 216, .p (.pick (.t 212) (.t 215) (.c (.bool false))), none⟩,
    ⟨some 217, .p (.mov (.t 216)), none⟩,
    ⟨some 218, .p (.mov (.t 22)), (some (217, true))⟩,
    ⟨some 219, .p (.mov (.t 24)), (some (217, true))⟩,
    ⟨some 220, .p (.eqn none false (.t 218) (.t 219)), (some (217, true))⟩,
    ⟨some 221, .p (.pick (.t 217) (.t 220) (.c (.bool false))), none⟩,
    ⟨some 222, .p (.mov (.t 221)), none⟩,
    ⟨some 223, .calli (.f 6) [], (some (222, true))⟩,
    ⟨some 224, .p (.pick (.t 222) (.t 223) (.c (.bool false))), none⟩,
    ⟨some 4, .p (.mov (.t 224)), none⟩])
  .ret)))))))))))))))))))))))))
def g3_macadamtop_TopWeather : AFn := ⟨g3_macadamtop_TopWeather_c, [.t 4], 2⟩

/-- macadam/claim.Check -/
def g4_claim_Check_l0 : ACode := (.seq (.reg [⟨some 35, .p (.bin .lss (.t 34) (.t 33)), none⟩])
  (.seq (.cond (.t 35) .skip (.exit 0))
  (.seq (.block 1 (.seq (.reg [⟨some 36, .p (.iaddr none 7 (.t 32) (.t 34)), none⟩,
    ⟨some 37, .p (.loadC 7 true (.t 36)), none⟩,
    ⟨some 6, .p (.allocL 6 [.int .i64 0, .int .i64 0, .int .i64 0, .int .i64 0, .int .i64 0, .int .i64 0, .int .i64 0]), none⟩,
    ⟨none, .p (.storeL 6 7 none (.t 37)), none⟩])
  (.seq (.reg [⟨some 38, .p (.mov (.t 3)), none⟩,
    ⟨some 39, .p (.mov (.t 38)), none⟩,
    ⟨some 40, .p (.lad 6 0), (some (39, true))⟩,
    ⟨some 41, .p (.loadL 6 1 false (some (.t 40))), (some (39, true))⟩,
    ⟨some 42, .p (.mov (.t 4)), (some (39, true))⟩,
    ⟨some 43, .p (.bin .add (.t 42) (.c (.int .i64 1))), (some (39, true))⟩,
    ⟨some 44, .calli (.f 26) [.t 41, .t 43, .c (.int .i64 300)], (some (39, true))⟩,
    ⟨some 45, .p (.pick (.t 39) (.t 44) (.c (.bool false))), none⟩,
    ⟨some 46, .p (.mov (.t 45)), none⟩,
    ⟨some 47, .p (.lad 6 1), (some (46, true))⟩,
    ⟨some 48, .p (.loadL 6 2 true (some (.t 47))), (some (46, true))⟩,
    ⟨some 49, .calli (.f 27) [.t 48, .c (.int .i64 1), .c (.int .i64 90), .c (.int .i64 2)], (some (46, true))⟩,
    ⟨some 50, .p (.pick (.t 46) (.t 49) (.c (.bool false))), none⟩,
    ⟨some 51, .p (.mov (.t 50)), none⟩,
    ⟨some 52, .p (.lad 6 3), (some (51, true))⟩,
    ⟨some 53, .p (.loadL 6 2 true (some (.t 52))), (some (51, true))⟩,
    ⟨some 54, .calli (.f 27) [.t 53, .c (.int .i64 0), .c (.int .i64 30), .c (.int .i64 2)], (some (51, true))⟩,
    ⟨some 55, .p (.pick (.t 51) (.t 54) (.c (.bool false))), none⟩,
    ⟨some 56, .p (.mov (.t 55)), none⟩,
    ⟨some 57, .p (.lad 6 5), (some (56, true))⟩,
    ⟨some 58, .p (.loadL 6 2 true (some (.t 57))), (some (56, true))⟩,
    ⟨some 59, .calli (.f 27) [.t 58, .c (.int .i64 0), .c (.int .i64 20), .c (.int .i64 1)], (some (56, true))⟩,
    ⟨some 60, .p (.pick (.t 56) (.t 59) (.c (.bool false))), none⟩,
    ⟨some 3, .p (.mov (.t 60)), none⟩])
  (.reg [⟨some 61, .p (.lad 6 0), none⟩,
    ⟨some 62, .p (.loadL 6 1 false (some (.t 61))), none⟩,
    ⟨some 4, .p (.mov (.t 62)), none⟩]))))
  (.reg [⟨some 63, .p (.bin .add (.t 34) (.c (.int .i64 1))), none⟩,
    ⟨some 34, .p (.mov (.t 63)), none⟩]))))
def g4_claim_Check_l1 : ACode := (.seq (.reg [⟨some 67, .p (.bin .lss (.t 66) (.c (.int .i64 3))), none⟩])
  (.seq (.cond (.t 67) .skip (.exit 2))
  (.seq (.block 3 (.seq (.reg [⟨some 68, .p (.index 3 1 false (.t 65) (.t 66)), none⟩,
    ⟨some 8, .p (.mov (.t 68)), none⟩])
  (.reg [⟨some 69, .p (.mov (.t 3)), none⟩,
    ⟨some 70, .p (.mov (.t 69)), none⟩,
    ⟨some 71, .p (.mov (.t 8)), (some (70, true))⟩,
    ⟨some 72, .calli (.f 26) [.t 71, .c (.int .i64 0), .c (.int .i64 30)], (some (70, true))⟩,
    ⟨some 73, .p (.pick (.t 70) (.t 72) (.c (.bool false))), none⟩,
    ⟨some 3, .p (.mov (.t 73)), none⟩])))
  (.reg [⟨some 74, .p (.bin .add (.t 66) (.c (.int .i64 1))), none⟩,
    ⟨some 66, .p (.mov (.t 74)), none⟩]))))
def g4_claim_Check_l2 : ACode := (.seq (.reg [⟨some 79, .p (.bin .lss (.t 78) (.t 77)), none⟩])
  (.seq (.cond (.t 79) .skip (.exit 4))
  (.seq (.block 5 (.seq (.reg [⟨some 80, .p (.iaddr none 3 (.t 76) (.t 78)), none⟩,
    ⟨some 81, .p (.loadC 3 true (.t 80)), none⟩,
    ⟨some 10, .p (.allocL 10 [.int .i64 0, .int .i64 0, .int .i64 0]), none⟩,
    ⟨none, .p (.storeL 10 3 none (.t 81)), none⟩])
  (.reg [⟨some 82, .p (.mov (.t 3)), none⟩,
    ⟨some 83, .p (.mov (.t 82)), none⟩,
    ⟨some 84, .p (.loadL 1 7 true none), (some (83, true))⟩,
    ⟨some 85, .p (.loadL 10 3 true none), (some (83, true))⟩,
    ⟨some 86, .calli (.f 28) [.t 84, .t 85], (some (83, true))⟩,
    ⟨some 87, .p (.pick (.t 83) (.t 86) (.c (.bool false))), none⟩,
    ⟨some 3, .p (.mov (.t 87)), none⟩])))
  (.reg [⟨some 88, .p (.bin .add (.t 78) (.c (.int .i64 1))), none⟩,
    ⟨some 78, .p (.mov (.t 88)), none⟩]))))
def g4_claim_Check_c : ACode := (.seq (.reg [⟨some 1, .p (.boxL 1 (.t 0)), none⟩,
    ⟨some 2, .p (.mov (.c (.int .i64 0))), none⟩])
  (.seq (.reg [⟨some 11, .p (.lad 1 0), none⟩,
    ⟨some 12, .p (.loadL 1 1 false (some (.t 11))), none⟩,
    ⟨some 13, .p (.len (.t 12)), none⟩,
    ⟨some 14, .calli (.f 26) [.t 13, .c (.int .i64 1), .c (.int .i64 3)], none⟩,
    ⟨some 15, .p (.mov (.t 14)), none⟩,
    ⟨some 16, .p (.lad 1 1), (some (15, true))⟩,
    ⟨some 17, .p (.loadL 1 1 false (some (.t 16))), (some (15, true))⟩,
    ⟨some 18, .calli (.f 26) [.t 17, .c (.int .i64 1), .c (.int .i64 7)], (some (15, true))⟩,
    ⟨some 19, .p (.pick (.t 15) (.t 18) (.c (.bool false))), none⟩,
    ⟨some 20, .p (.mov (.t 19)), none⟩,
    ⟨some 21, .p (.lad 1 5), (some (20, true))⟩,
    ⟨some 22, .p (.loadL 1 1 false (some (.t 21))), (some (20, true))⟩,
    ⟨some 23, .p (.len (.t 22)), (some (20, true))⟩,
    ⟨some 24, .p (.bin .leq (.t 23) (.c (.int .i64 4))), (some (20, true))⟩,
    ⟨some 25, .p (.pick (.t 20) (.t 24) (.c (.bool false))), none⟩,
    ⟨some 26, .p (.mov (.t 25)), none⟩,
    ⟨some 27, .p (.lad 1 6), (some (26, true))⟩,
    ⟨some 28, .p (.loadL 1 1 false (some (.t 27))), (some (26, true))⟩,
    ⟨some 29, .calli (.f 26) [.t 28, .c (.int .i64 0), .c (.int .i64 99)], (some (26, true))⟩,
    ⟨some 30, .p (.pick (.t 26) (.t 29) (.c (.bool false))), none⟩,
    ⟨some 3, .p (.mov (.t 30)), none⟩])
  (.seq (.reg [⟨some 4, .p (.mov (.c (.int .i64 0))), none⟩])
  (.seq (.seq (.reg [⟨some 31, .p (.lad 1 0), none⟩,
    ⟨some 32, .p (.loadL 1 1 false (some (.t 31))), none⟩,
    ⟨some 33, .p (.len (.t 32)), none⟩,
    ⟨some 34, .p (.mov (.c (.int .i64 0))), none⟩])
  (.block 0 (.loop g4_claim_Check_l0)))
  (.seq (.seq (.reg [⟨some 64, .p (.lad 1 2), none⟩,
    ⟨some 65, .p (.loadL 1 3 true (some (.t 64))), none⟩,
    ⟨some 66, .p (.mov (.c (.int .i64 0))), none⟩])
  (.block 2 (.loop g4_claim_Check_l1)))
  (.seq (.seq (.reg [⟨some 75, .p (.lad 1 5), none⟩,
    ⟨some 76, .p (.loadL 1 1 false (some (.t 75))), none⟩,
    ⟨some 77, .p (.len (.t 76)), none⟩,
    ⟨some 78, .p (.mov (.c (.int .i64 0))), none⟩])
  (.block 4 (.loop g4_claim_Check_l2)))
  (.seq (.seq (.reg [⟨some 89, .p (.mov (.t 3)), none⟩,
    ⟨some 90, .p (.un .not (.t 89)), none⟩])
  (.cond (.t 90) (.seq (.reg [⟨some 2, .p (.mov (.c (.int .i64 60))), none⟩])
  .ret) .skip))
  (.seq (.reg [⟨some 2, .p (.mov (.c (.int .i64 0))), none⟩])
  .ret))))))))
def g4_claim_Check : AFn := ⟨g4_claim_Check_c, [.t 2], 1⟩

/-- macadam/macadamref00.Amid -/
def g5_macadamref00_Amid_c : ACode := (.seq (.reg [⟨some 6, .p (.mov (.c (.bool false))), none⟩])
  (.seq (.reg [⟨some 7, .p (.mov (.t 1)), none⟩,
    ⟨some 8, .p (.mov (.t 0)), none⟩,
    ⟨some 9, .p (.bin .leq (.t 7) (.t 8)), none⟩,
    ⟨some 10, .p (.mov (.t 9)), none⟩,
    ⟨some 11, .p (.mov (.t 0)), (some (10, true))⟩,
    ⟨some 12, .p (.mov (.t 2)), (some (10, true))⟩,
    ⟨some 13, .p (.bin .leq (.t 11) (.t 12)), (some (10, true))⟩,
    ⟨some 14, .p (.pick (.t 10) (.t 13) (.c (.bool false))), none⟩,
    ⟨some 6, .p (.mov (.t 14)), none⟩])
  .ret))
def g5_macadamref00_Amid : AFn := ⟨g5_macadamref00_Amid_c, [.t 6], 3⟩

/-- macadam/macadamtop.rained06 -/
def g6_macadamtop_rained06_c : ACode := (.seq (.reg [⟨some 0, .p (.mov (.c (.bool false))), none⟩])
  (.seq (.reg [⟨some 14, .calli (.f 30) [], none⟩,
    ⟨some 15, .calli (.f 29) [.t 14, .c (.int .i64 0)], none⟩,
    ⟨some 13, .p (.mov (.t 15)), none⟩,
    ⟨some 16, .p (.extract (.t 13) 0), none⟩,
    ⟨some 17, .p (.extract (.t 13) 1), none⟩,
    ⟨some 1, .p (.allocL 1 [.int .i64 0, .int .i64 0]), none⟩,
    ⟨none, .p (.storeL 1 2 none (.t 16)), none⟩,
    ⟨some 2, .p (.mov (.t 17)), none⟩])
  (.seq (.reg [⟨some 19, .calli (.f 30) [], none⟩,
    ⟨some 20, .calli (.f 32) [.t 19], none⟩,
    ⟨some 21, .calli (.f 31) [.t 20, .c (.int .i64 0)], none⟩,
    ⟨some 18, .p (.mov (.t 21)), none⟩,
    ⟨some 22, .p (.extract (.t 18) 0), none⟩,
    ⟨some 23, .p (.extract (.t 18) 1), none⟩,
    ⟨some 3, .p (.allocL 3 [.int .i64 0, .int .i64 0]), none⟩,
    ⟨none, .p (.storeL 3 2 none (.t 22)), none⟩,
    ⟨some 4, .p (.mov (.t 23)), none⟩])
  (.seq (.reg [⟨some 25, .calli (.f 33) [], none⟩,
    ⟨some 26, .calli (.f 19) [.t 25], none⟩,
    ⟨some 24, .p (.mov (.t 26)), none⟩,
    ⟨some 27, .p (.extract (.t 24) 0), none⟩,
    ⟨some 28, .p (.extract (.t 24) 1), none⟩,
    ⟨some 5, .p (.mov (.t 27)), none⟩,
    ⟨some 6, .p (.mov (.t 28)), none⟩])
  (.seq (.reg [⟨some 30, .calli (.f 33) [], none⟩,
    ⟨some 31, .calli (.f 8) [.t 30], none⟩,
    ⟨some 32, .calli (.f 20) [.t 31, .c (.int .i64 0)], none⟩,
    ⟨some 29, .p (.mov (.t 32)), none⟩,
    ⟨some 33, .p (.extract (.t 29) 0), none⟩,
    ⟨some 34, .p (.extract (.t 29) 1), none⟩,
    ⟨some 7, .p (.mov (.t 33)), none⟩,
    ⟨some 8, .p (.mov (.t 34)), none⟩])
  (.seq (.reg [⟨some 36, .calli (.f 33) [], none⟩,
    ⟨some 37, .calli (.f 15) [.t 36, .c (.int .i64 0)], none⟩,
    ⟨some 35, .p (.mov (.t 37)), none⟩,
    ⟨some 38, .p (.extract (.t 35) 0), none⟩,
    ⟨some 39, .p (.extract (.t 35) 1), none⟩,
    ⟨some 9, .p (.allocL 9 [.int .i64 0, .int .i64 0]), none⟩,
    ⟨none, .p (.storeL 9 2 none (.t 38)), none⟩,
    ⟨some 10, .p (.mov (.t 39)), none⟩])
  (.seq (.reg [⟨some 41, .calli (.f 33) [], none⟩,
    ⟨some 42, .calli (.f 34) [.t 41], none⟩,
    ⟨some 40, .p (.mov (.t 42)), none⟩,
    ⟨some 43, .p (.extract (.t 40) 0), none⟩,
    ⟨some 44, .p (.extract (.t 40) 1), none⟩,
    ⟨some 11, .p (.mov (.t 43)), none⟩,
    ⟨some 12, .p (.mov (.t 44)), none⟩])
  (.seq (.reg [⟨some 45, .p (.mov (.t 2)), none⟩,
    ⟨some 46, .p (.bin .eql (.t 45) (.c (.int .i64 0))), none⟩,
    ⟨some 47, .p (.mov (.t 46)), none⟩,
    ⟨some 48, .p (.mov (.t 4)), (some (47, true))⟩,
    ⟨some 49, .p (.bin .eql (.t 48) (.c (.int .i64 0))), (some (47, true))⟩,
    ⟨some 50, .p (.pick (.t 47) (.t 49) (.c (.bool false))), none⟩,
    ⟨some 51, .p (.mov (.t 50)), none⟩,
    ⟨some 52, .p (.mov (.t 6)), (some (51, true))⟩,
    ⟨some 53, .p (.bin .eql (.t 52) (.c (.int .i64 0))), (some (51, true))⟩,
    ⟨some 54, .p (.pick (.t 51) (.t 53) (.c (.bool false))), none⟩,
    ⟨some 55, .p (.mov (.t 54)), none⟩,
    ⟨some 56, .p (.mov (.t 8)), (some (55, true))⟩,
    ⟨some 57, .p (.bin .eql (.t 56) (.c (.int .i64 0))), (some (55, true))⟩,
    ⟨some 58, .p (.pick (.t 55) (.t 57) (.c (.bool false))), none⟩,
    ⟨some 59, .p (.mov (.t 58)), none⟩,
    ⟨some 60, .p (.mov (.t 10)), (some (59, true))⟩,
    ⟨some 61, .p (.bin .eql (.t 60) (.c (.int .i64 0))), (some (59, true))⟩,
    ⟨some 62, .p (.pick (.t 59) (.t 61) (.c (.bool false))), none⟩,
    ⟨some 63, .p (.mov (.t 62)), none⟩,
    ⟨some 64, .p (.mov (.t 12)), (some (63, true))⟩,
    ⟨some 65, .p (.bin .eql (.t 64) (.c (.int .i64 0))), (some (63, true))⟩,
    ⟨some 66, .p (.pick (.t 63) (.t 65) (.c (.bool false))), none⟩,
    ⟨some 67, .p (.mov (.t 66)), none⟩,
    ⟨some 68, .p (.loadL 1 2 true none), (some (67, true))⟩,
    ⟨some 69, .calli (.f 35) [.c (.int .i64 4)], (some (67, true))⟩,
    ⟨some 70, .p (.eqn (some 2) false (.t 68) (.t 69)), (some (67, true))⟩,
    ⟨some 71, .p (.pick (.t 67) (.t 70) (.c (.bool false))), none⟩,
    ⟨some 72, .p (.mov (.t 71)), none⟩,
    ⟨some 73, .p (.loadL 3 2 true none), (some (72, true))⟩,
    ⟨some 74, .p (.loadL 1 2 true none), (some (72, true))⟩,
    ⟨some 75, .p (.eqn (some 2) false (.t 73) (.t 74)), (some (72, true))⟩,
    ⟨some 76, .p (.pick (.t 72) (.t 75) (.c (.bool false))), none⟩,
    ⟨some 77, .p (.mov (.t 76)), none⟩,
    ⟨some 78, .p (.mov (.t 5)), (some (77, true))⟩,
    ⟨some 79, .p (.bin .eql (.t 78) (.c (.int .i64 2))), (some (77, true))⟩,
    ⟨some 80, .p (.pick (.t 77) (.t 79) (.c (.bool false))), none⟩,
    ⟨some 81, .p (.mov (.t 80)), none⟩,
    ⟨some 82, .p (.mov (.t 7)), (some (81, true))⟩,
    ⟨some 83, .p (.bin .eql (.t 82) (.c (.int .i64 2))), (some (81, true))⟩,
    ⟨some 84, .p (.pick (.t 81) (.t 83) (.c (.bool false))), none⟩,
    ⟨some 85, .p (.mov (.t 84)), none⟩,
    ⟨some 86, .p (.loadL 9 2 true none), (some (85, true))⟩,
    ⟨some 87, .calli (.f 35) [.c (.int .i64 15)], (some (85, true))⟩,
    ⟨some 88, .p (.eqn (some 2) false (.t 86) (.t 87)), (some (85, true))⟩,
    ⟨some 89, .p (.pick (.t 85) (.t 88) (.c (.bool false))), none⟩,
    ⟨some 90, .p (.mov (.t 89)), none⟩,
    ⟨some 91, .p (.mov (.t 11)), (some (90, true))⟩,
    ⟨some 92, .p (.bin .eql (.t 91) (.c (.int .i64 0))), (some (90, true))⟩,
    ⟨some 93, .p (.pick (.t 90) (.t 92) (.c (.bool false))), none⟩,
    ⟨some 0, .p (.mov (.t 93)), none⟩])
  .ret))))))))
def g6_macadamtop_rained06 : AFn := ⟨g6_macadamtop_rained06_c, [.t 0], 0⟩

/-- macadam/macadamtop.single06 -/
def g7_macadamtop_single06_l0 : ACode := (.seq (.seq (.reg [⟨some 42, .p (.mov (.t 6)), none⟩,
    ⟨some 43, .p (.lad 1 5), none⟩,
    ⟨some 44, .p (.loadL 1 1 false (some (.t 43))), none⟩,
    ⟨some 45, .p (.len (.t 44)), none⟩,
    ⟨some 46, .p (.bin .lss (.t 42) (.t 45)), none⟩])
  (.cond (.t 46) .skip (.exit 0)))
  (.seq (.block 1 (.seq (.reg [⟨some 49, .p (.lad 1 5), none⟩,
    ⟨some 50, .p (.loadL 1 1 false (some (.t 49))), none⟩,
    ⟨some 51, .p (.mov (.t 6)), none⟩,
    ⟨some 52, .p (.iaddr none 3 (.t 50) (.t 51)), none⟩,
    ⟨some 53, .p (.loadC 3 true (.t 52)), none⟩,
    ⟨some 7, .p (.allocL 7 [.int .i64 0, .int .i64 0, .int .i64 0]), none⟩,
    ⟨none, .p (.storeL 7 3 none (.t 53)), none⟩])
  (.seq (.reg [⟨some 54, .p (.lad 7 0), none⟩,
    ⟨none, .p (.storeL 7 1 (some (.t 54)) (.c (.int .i64 0))), none⟩])
  (.reg [⟨some 55, .p (.lad 5 5), none⟩,
    ⟨some 56, .p (.loadL 5 1 false (some (.t 55))), none⟩,
    ⟨some 57, .p (.loadL 7 3 true none), none⟩,
    ⟨some 58, .p (.bslice 3 [.int .i64 0, .int .i64 0, .int .i64 0] 1 [(0, .t 57)]), none⟩,
    ⟨some 59, .h (.append 3 24 (.t 56) (.t 58)), none⟩,
    ⟨some 60, .p (.lad 5 5), none⟩,
    ⟨none, .p (.storeL 5 1 (some (.t 60)) (.t 59)), none⟩]))))
  (.reg [⟨some 47, .p (.mov (.t 6)), none⟩,
    ⟨some 48, .p (.bin .add (.t 47) (.c (.int .i64 1))), none⟩,
    ⟨some 6, .p (.mov (.t 48)), none⟩])))
def g7_macadamtop_single06_c : ACode := (.seq (.reg [⟨some 1, .p (.boxL 1 (.t 0)), none⟩,
    ⟨some 2, .p (.allocL 2 [.sl [] .exact, .int .i64 0, .int .i64 0, .int .i64 0, .int .i64 0, .sl [] .exact, .int .i64 0]), none⟩])
  (.seq (.reg [⟨some 8, .p (.lad 1 0), none⟩,
    ⟨some 9, .p (.loadL 1 1 false (some (.t 8))), none⟩,
    ⟨some 10, .p (.iaddr none 7 (.t 9) (.c (.int .i64 0))), none⟩,
    ⟨some 11, .p (.loadC 7 true (.t 10)), none⟩,
    ⟨some 3, .p (.allocL 3 [.int .i64 0, .int .i64 0, .int .i64 0, .int .i64 0, .int .i64 0, .int .i64 0, .int .i64 0]), none⟩,
    ⟨none, .p (.storeL 3 7 none (.t 11)), none⟩])
  (.seq (.reg [⟨some 12, .p (.lad 3 3), none⟩,
    ⟨some 13, .p (.faddr 0 (.t 12)), none⟩,
    ⟨some 14, .p (.loadL 3 1 false (some (.t 13))), none⟩,
    ⟨some 15, .calli (.f 23) [.t 14, .c (.int .i64 4)], none⟩,
    ⟨some 4, .p (.mov (.t 15)), none⟩])
  (.seq (.reg [⟨some 16, .p (.lad 3 1), none⟩,
    ⟨some 17, .p (.faddr 0 (.t 16)), none⟩,
    ⟨some 18, .p (.loadL 3 1 false (some (.t 17))), none⟩,
    ⟨some 19, .p (.mn [.t 18, .c (.int .i64 60)]), none⟩,
    ⟨some 20, .p (.lad 3 1), none⟩,
    ⟨some 21, .p (.faddr 1 (.t 20)), none⟩,
    ⟨some 22, .p (.loadL 3 1 false (some (.t 21))), none⟩,
    ⟨some 23, .p (.mn [.t 22, .c (.int .i64 60)]), none⟩,
    ⟨some 24, .calli (.f 36) [.t 19, .t 23], none⟩,
    ⟨some 25, .p (.mov (.t 4)), none⟩,
    ⟨some 26, .p (.mov (.t 4)), none⟩,
    ⟨some 27, .p (.bin .add (.t 26) (.c (.int .i64 1))), none⟩,
    ⟨some 28, .calli (.f 36) [.t 25, .t 27], none⟩,
    ⟨some 29, .p (.lad 3 1), none⟩,
    ⟨none, .p (.storeL 3 2 (some (.t 29)) (.t 24)), none⟩,
    ⟨some 30, .p (.lad 3 3), none⟩,
    ⟨none, .p (.storeL 3 2 (some (.t 30)) (.t 28)), none⟩])
  (.seq (.reg [⟨some 31, .p (.loadL 3 7 true none), none⟩,
    ⟨some 32, .p (.bslice 7 [.int .i64 0, .int .i64 0, .int .i64 0, .int .i64 0, .int .i64 0, .int .i64 0, .int .i64 0] 1 [(0, .t 31)]), none⟩,
    ⟨some 33, .p (.lad 1 6), none⟩,
    ⟨some 34, .p (.loadL 1 1 false (some (.t 33))), none⟩,
    ⟨some 35, .p (.build [.sl [] .exact, .int .i64 0, .int .i64 0, .int .i64 0, .int .i64 0, .sl [] .exact, .int .i64 0] [(0, 1, .t 32), (1, 1, .c (.int .i64 3)), (6, 1, .t 34)]), none⟩,
    ⟨some 5, .p (.allocL 5 [.sl [] .exact, .int .i64 0, .int .i64 0, .int .i64 0, .int .i64 0, .sl [] .exact, .int .i64 0]), none⟩,
    ⟨none, .p (.storeL 5 7 none (.t 35)), none⟩])
  (.seq (.reg [⟨some 36, .p (.lad 1 2), none⟩,
    ⟨some 37, .p (.iaddr (some 3) 1 (.t 36) (.c (.int .i64 1))), none⟩,
    ⟨some 38, .p (.loadL 1 1 false (some (.t 37))), none⟩,
    ⟨some 39, .calli (.f 23) [.t 38, .c (.int .i64 5)], none⟩,
    ⟨some 40, .p (.lad 5 2), none⟩,
    ⟨some 41, .p (.iaddr (some 3) 1 (.t 40) (.c (.int .i64 1))), none⟩,
    ⟨none, .p (.storeL 5 1 (some (.t 41)) (.t 39)), none⟩])
  (.seq (.seq (.reg [⟨some 6, .p (.mov (.c (.int .i64 0))), none⟩])
  (.block 0 (.loop g7_macadamtop_single06_l0)))
  (.seq (.reg [⟨some 61, .p (.loadL 5 7 true none), none⟩,
    ⟨none, .p (.storeL 2 7 none (.t 61)), none⟩])
  .ret))))))))
def g7_macadamtop_single06 : AFn := ⟨g7_macadamtop_single06_c, [.cellL 2 7 true], 1⟩

/-- macadam/macadamtop.mile06 -/
def g8_macadamtop_mile06_l0 : ACode := (.seq (.seq (.reg [⟨some 27, .p (.mov (.t 5)), none⟩,
    ⟨some 28, .p (.lad 1 5), none⟩,
    ⟨some 29, .p (.loadL 1 1 false (some (.t 28))), none⟩,
    ⟨some 30, .p (.len (.t 29)), none⟩,
    ⟨some 31, .p (.bin .lss (.t 27) (.t 30)), none⟩])
  (.cond (.t 31) .skip (.exit 0)))
  (.seq (.block 1 (.seq (.reg [⟨some 34, .p (.lad 1 5), none⟩,
    ⟨some 35, .p (.loadL 1 1 false (some (.t 34))), none⟩,
    ⟨some 36, .p (.mov (.t 5)), none⟩,
    ⟨some 37, .p (.iaddr none 3 (.t 35) (.t 36)), none⟩,
    ⟨some 38, .p (.loadC 3 true (.t 37)), none⟩,
    ⟨some 6, .p (.allocL 6 [.int .i64 0, .int .i64 0, .int .i64 0]), none⟩,
    ⟨none, .p (.storeL 6 3 none (.t 38)), none⟩])
  (.reg [⟨some 39, .p (.lad 4 9), none⟩,
    ⟨some 40, .p (.loadL 4 1 false (some (.t 39))), none⟩,
    ⟨some 41, .p (.lad 6 1), none⟩,
    ⟨some 42, .p (.loadL 6 1 false (some (.t 41))), none⟩,
    ⟨some 43, .p (.lad 6 2), none⟩,
    ⟨some 44, .p (.loadL 6 1 false (some (.t 43))), none⟩,
    ⟨some 45, .p (.build [.int .i64 0, .int .i64 0, .int .i64 0, .int .i64 0] [(2, 1, .t 42), (3, 1, .t 44)]), none⟩,
    ⟨some 46, .p (.bslice 4 [.int .i64 0, .int .i64 0, .int .i64 0, .int .i64 0] 1 [(0, .t 45)]), none⟩,
    ⟨some 47, .h (.append 4 32 (.t 40) (.t 46)), none⟩,
    ⟨some 48, .p (.lad 4 9), none⟩,
    ⟨none, .p (.storeL 4 1 (some (.t 48)) (.t 47)), none⟩])))
  (.reg [⟨some 32, .p (.mov (.t 5)), none⟩,
    ⟨some 33, .p (.bin .add (.t 32) (.c (.int .i64 1))), none⟩,
    ⟨some 5, .p (.mov (.t 33)), none⟩])))
def g8_macadamtop_mile06_c : ACode := (.seq (.reg [⟨some 1, .p (.boxL 1 (.t 0)), none⟩,
    ⟨some 2, .p (.allocL 2 [.sl [] .exact, .int .i64 0, .int .i64 0, .int .i64 0, .int .i64 0, .int .i64 0, .int .i64 0, .sl [] .exact, .sl [] .exact, .sl [] .exact, .int .i64 0]), none⟩])
  (.seq (.reg [⟨some 7, .p (.lad 1 0), none⟩,
    ⟨some 8, .p (.loadL 1 1 false (some (.t 7))), none⟩,
    ⟨some 9, .p (.iaddr none 7 (.t 8) (.c (.int .i64 0))), none⟩,
    ⟨some 10, .p (.loadC 7 true (.t 9)), none⟩,
    ⟨some 3, .p (.allocL 3 [.int .i64 0, .int .i64 0, .int .i64 0, .int .i64 0, .int .i64 0, .int .i64 0, .int .i64 0]), none⟩,
    ⟨none, .p (.storeL 3 7 none (.t 10)), none⟩])
  (.seq (.reg [⟨some 11, .p (.lad 3 1), none⟩,
    ⟨some 12, .p (.loadL 3 2 true (some (.t 11))), none⟩,
    ⟨some 13, .p (.bslice 2 [.int .i64 0, .int .i64 0] 1 [(0, .t 12)]), none⟩,
    ⟨some 14, .p (.lad 3 3), none⟩,
    ⟨some 15, .p (.loadL 3 2 true (some (.t 14))), none⟩,
    ⟨some 16, .p (.build [.int .i64 0, .int .i64 0] []), none⟩,
    ⟨some 17, .p (.lad 1 2), none⟩,
    ⟨some 18, .p (.iaddr (some 3) 1 (.t 17) (.c (.int .i64 1))), none⟩,
    ⟨some 19, .p (.loadL 1 1 false (some (.t 18))), none⟩,
    ⟨some 20, .calli (.f 35) [.t 19], none⟩,
    ⟨some 21, .p (.build [.int .i64 0, .int .i64 0, .int .i64 0, .int .i64 0, .int .i64 0, .int .i64 0] [(0, 2, .t 15), (2, 2, .t 16), (4, 2, .t 20)]), none⟩,
    ⟨some 22, .p (.build [.int .i64 0, .int .i64 0, .int .i64 0] [(0, 1, .c (.int .i64 1)), (2, 1, .c (.int .i64 1))]), none⟩,
    ⟨some 23, .p (.bslice 3 [.int .i64 0, .int .i64 0, .int .i64 0] 1 [(0, .t 22)]), none⟩,
    ⟨some 24, .p (.lad 3 0), none⟩,
    ⟨some 25, .p (.loadL 3 1 false (some (.t 24))), none⟩,
    ⟨some 26, .p (.build [.sl [] .exact, .int .i64 0, .int .i64 0, .int .i64 0, .int .i64 0, .int .i64 0, .int .i64 0, .sl [] .exact, .sl [] .exact, .sl [] .exact, .int .i64 0] [(0, 1, .t 13), (1, 6, .t 21), (7, 1, .t 23), (10, 1, .t 25)]), none⟩,
    ⟨some 4, .p (.allocL 4 [.sl [] .exact, .int .i64 0, .int .i64 0, .int .i64 0, .int .i64 0, .int .i64 0, .int .i64 0, .sl [] .exact, .sl [] .exact, .sl [] .exact, .int .i64 0]), none⟩,
    ⟨none, .p (.storeL 4 11 none (.t 26)), none⟩])
  (.seq (.seq (.reg [⟨some 5, .p (.mov (.c (.int .i64 0))), none⟩])
  (.block 0 (.loop g8_macadamtop_mile06_l0)))
  (.seq (.reg [⟨some 49, .p (.loadL 4 11 true none), none⟩,
    ⟨none, .p (.storeL 2 11 none (.t 49)), none⟩])
  .ret)))))
def g8_macadamtop_mile06 : AFn := ⟨g8_macadamtop_mile06_c, [.cellL 2 11 true], 1⟩

/-- macadam/rut.Check -/
def g9_rut_Check_l0 : ACode := (.seq (.reg [⟨some 45, .p (.bin .lss (.t 44) (.t 43)), none⟩])
  (.seq (.cond (.t 45) .skip (.exit 0))
  (.seq (.block 1 (.seq (.reg [⟨some 46, .p (.iaddr none 2 (.t 42) (.t 44)), none⟩,
    ⟨some 47, .p (.loadC 2 true (.t 46)), none⟩,
    ⟨some 5, .p (.allocL 5 [.int .i64 0, .int .i64 0]), none⟩,
    ⟨none, .p (.storeL 5 2 none (.t 47)), none⟩])
  (.reg [⟨some 48, .p (.mov (.t 3)), none⟩,
    ⟨some 49, .p (.mov (.t 48)), none⟩,
    ⟨some 50, .p (.loadL 5 2 true none), (some (49, true))⟩,
    ⟨some 51, .calli (.f 38) [.t 50, .c (.int .i64 60), .c (.int .i64 3)], (some (49, true))⟩,
    ⟨some 52, .p (.pick (.t 49) (.t 51) (.c (.bool false))), none⟩,
    ⟨some 3, .p (.mov (.t 52)), none⟩])))
  (.reg [⟨some 53, .p (.bin .add (.t 44) (.c (.int .i64 1))), none⟩,
    ⟨some 44, .p (.mov (.t 53)), none⟩]))))
def g9_rut_Check_l1 : ACode := (.seq (.reg [⟨some 57, .p (.bin .lss (.t 56) (.c (.int .i64 3))), none⟩])
  (.seq (.cond (.t 57) .skip (.exit 2))
  (.seq (.block 3 (.seq (.reg [⟨some 58, .p (.index 3 2 true (.t 55) (.t 56)), none⟩,
    ⟨some 7, .p (.allocL 7 [.int .i64 0, .int .i64 0]), none⟩,
    ⟨none, .p (.storeL 7 2 none (.t 58)), none⟩])
  (.reg [⟨some 59, .p (.mov (.t 3)), none⟩,
    ⟨some 60, .p (.mov (.t 59)), none⟩,
    ⟨some 61, .p (.loadL 7 2 true none), (some (60, true))⟩,
    ⟨some 62, .calli (.f 38) [.t 61, .c (.int .i64 4), .c (.int .i64 1)], (some (60, true))⟩,
    ⟨some 63, .p (.pick (.t 60) (.t 62) (.c (.bool false))), none⟩,
    ⟨some 3, .p (.mov (.t 63)), none⟩])))
  (.reg [⟨some 64, .p (.bin .add (.t 56) (.c (.int .i64 1))), none⟩,
    ⟨some 56, .p (.mov (.t 64)), none⟩]))))
def g9_rut_Check_l2 : ACode := (.seq (.reg [⟨some 69, .p (.bin .lss (.t 68) (.t 67)), none⟩])
  (.seq (.cond (.t 69) .skip (.exit 4))
  (.seq (.block 5 (.seq (.reg [⟨some 70, .p (.iaddr none 3 (.t 66) (.t 68)), none⟩,
    ⟨some 71, .p (.loadC 3 true (.t 70)), none⟩,
    ⟨some 9, .p (.allocL 9 [.int .i64 0, .int .i64 0, .int .i64 0]), none⟩,
    ⟨none, .p (.storeL 9 3 none (.t 71)), none⟩])
  (.reg [⟨some 72, .p (.mov (.t 3)), none⟩,
    ⟨some 73, .p (.mov (.t 72)), none⟩,
    ⟨some 74, .p (.lad 9 0), (some (73, true))⟩,
    ⟨some 75, .p (.loadL 9 1 false (some (.t 74))), (some (73, true))⟩,
    ⟨some 76, .calli (.f 37) [.t 75, .c (.int .i64 0), .c (.int .i64 9)], (some (73, true))⟩,
    ⟨some 77, .p (.pick (.t 73) (.t 76) (.c (.bool false))), none⟩,
    ⟨some 78, .p (.mov (.t 77)), none⟩,
    ⟨some 79, .p (.lad 9 1), (some (78, true))⟩,
    ⟨some 80, .p (.loadL 9 1 false (some (.t 79))), (some (78, true))⟩,
    ⟨some 81, .calli (.f 37) [.t 80, .c (.int .i64 0), .c (.int .i64 9)], (some (78, true))⟩,
    ⟨some 82, .p (.pick (.t 78) (.t 81) (.c (.bool false))), none⟩,
    ⟨some 83, .p (.mov (.t 82)), none⟩,
    ⟨some 84, .p (.lad 9 2), (some (83, true))⟩,
    ⟨some 85, .p (.loadL 9 1 false (some (.t 84))), (some (83, true))⟩,
    ⟨some 86, .calli (.f 37) [.t 85, .c (.int .i64 0), .c (.int .i64 2)], (some (83, true))⟩,
    ⟨some 87, .p (.pick (.t 83) (.t 86) (.c (.bool false))), none⟩,
    ⟨some 3, .p (.mov (.t 87)), none⟩])))
  (.reg [⟨some 88, .p (.bin .add (.t 68) (.c (.int .i64 1))), none⟩,
    ⟨some 68, .p (.mov (.t 88)), none⟩]))))
def g9_rut_Check_l3 : ACode := (.seq (.reg [⟨some 93, .p (.bin .lss (.t 92) (.t 91)), none⟩])
  (.seq (.cond (.t 93) .skip (.exit 6))
  (.seq (.block 7 (.seq (.reg [⟨some 94, .p (.iaddr none 2 (.t 90) (.t 92)), none⟩,
    ⟨some 95, .p (.loadC 2 true (.t 94)), none⟩,
    ⟨some 11, .p (.allocL 11 [.int .i64 0, .int .i64 0]), none⟩,
    ⟨none, .p (.storeL 11 2 none (.t 95)), none⟩])
  (.reg [⟨some 96, .p (.mov (.t 3)), none⟩,
    ⟨some 97, .p (.mov (.t 96)), none⟩,
    ⟨some 98, .p (.loadL 1 11 true none), (some (97, true))⟩,
    ⟨some 99, .p (.lad 11 0), (some (97, true))⟩,
    ⟨some 100, .p (.loadL 11 1 false (some (.t 99))), (some (97, true))⟩,
    ⟨some 101, .calli (.f 39) [.t 98, .t 100], (some (97, true))⟩,
    ⟨some 102, .p (.pick (.t 97) (.t 101) (.c (.bool false))), none⟩,
    ⟨some 103, .p (.mov (.t 102)), none⟩,
    ⟨some 104, .p (.loadL 1 11 true none), (some (103, true))⟩,
    ⟨some 105, .p (.lad 11 1), (some (103, true))⟩,
    ⟨some 106, .p (.loadL 11 1 false (some (.t 105))), (some (103, true))⟩,
    ⟨some 107, .calli (.f 40) [.t 104, .t 106], (some (103, true))⟩,
    ⟨some 108, .p (.pick (.t 103) (.t 107) (.c (.bool false))), none⟩,
    ⟨some 3, .p (.mov (.t 108)), none⟩])))
  (.reg [⟨some 109, .p (.bin .add (.t 92) (.c (.int .i64 1))), none⟩,
    ⟨some 92, .p (.mov (.t 109)), none⟩]))))
def g9_rut_Check_l4 : ACode := (.seq (.reg [⟨some 114, .p (.bin .lss (.t 113) (.t 112)), none⟩])
  (.seq (.cond (.t 114) .skip (.exit 8))
  (.seq (.block 9 (.seq (.reg [⟨some 115, .p (.iaddr none 4 (.t 111) (.t 113)), none⟩,
    ⟨some 116, .p (.loadC 4 true (.t 115)), none⟩,
    ⟨some 13, .p (.allocL 13 [.int .i64 0, .int .i64 0, .int .i64 0, .int .i64 0]), none⟩,
    ⟨none, .p (.storeL 13 4 none (.t 116)), none⟩])
  (.reg [⟨some 117, .p (.mov (.t 3)), none⟩,
    ⟨some 118, .p (.mov (.t 117)), none⟩,
    ⟨some 119, .p (.loadL 1 11 true none), (some (118, true))⟩,
    ⟨some 120, .p (.loadL 13 4 true none), (some (118, true))⟩,
    ⟨some 121, .calli (.f 41) [.t 119, .t 120], (some (118, true))⟩,
    ⟨some 122, .p (.pick (.t 118) (.t 121) (.c (.bool false))), none⟩,
    ⟨some 3, .p (.mov (.t 122)), none⟩])))
  (.reg [⟨some 123, .p (.bin .add (.t 113) (.c (.int .i64 1))), none⟩,
    ⟨some 113, .p (.mov (.t 123)), none⟩]))))
def g9_rut_Check_c : ACode := (.seq (.reg [⟨some 1, .p (.boxL 1 (.t 0)), none⟩,
    ⟨some 2, .p (.mov (.c (.int .i64 0))), none⟩])
  (.seq (.reg [⟨some 14, .p (.lad 1 0), none⟩,
    ⟨some 15, .p (.loadL 1 1 false (some (.t 14))), none⟩,
    ⟨some 16, .p (.len (.t 15)), none⟩,
    ⟨some 17, .calli (.f 37) [.t 16, .c (.int .i64 1), .c (.int .i64 4)], none⟩,
    ⟨some 18, .p (.mov (.t 17)), none⟩,
    ⟨some 19, .p (.lad 1 7), (some (18, true))⟩,
    ⟨some 20, .p (.loadL 1 1 false (some (.t 19))), (some (18, true))⟩,
    ⟨some 21, .p (.len (.t 20)), (some (18, true))⟩,
    ⟨some 22, .calli (.f 37) [.t 21, .c (.int .i64 1), .c (.int .i64 6)], (some (18, true))⟩,
    ⟨some 23, .p (.pick (.t 18) (.t 22) (.c (.bool false))), none⟩,
    ⟨some 24, .p (.mov (.t 23)), none⟩,
    ⟨some 25, .p (.lad 1 8), (some (24, true))⟩,
    ⟨some 26, .p (.loadL 1 1 false (some (.t 25))), (some (24, true))⟩,
    ⟨some 27, .p (.len (.t 26)), (some (24, true))⟩,
    ⟨some 28, .p (.bin .leq (.t 27) (.c (.int .i64 6))), (some (24, true))⟩,
    ⟨some 29, .p (.pick (.t 24) (.t 28) (.c (.bool false))), none⟩,
    ⟨some 30, .p (.mov (.t 29)), none⟩,
    ⟨some 31, .p (.lad 1 9), (some (30, true))⟩,
    ⟨some 32, .p (.loadL 1 1 false (some (.t 31))), (some (30, true))⟩,
    ⟨some 33, .p (.len (.t 32)), (some (30, true))⟩,
    ⟨some 34, .p (.bin .leq (.t 33) (.c (.int .i64 5))), (some (30, true))⟩,
    ⟨some 35, .p (.pick (.t 30) (.t 34) (.c (.bool false))), none⟩,
    ⟨some 36, .p (.mov (.t 35)), none⟩,
    ⟨some 37, .p (.lad 1 10), (some (36, true))⟩,
    ⟨some 38, .p (.loadL 1 1 false (some (.t 37))), (some (36, true))⟩,
    ⟨some 39, .calli (.f 37) [.t 38, .c (.int .i64 0), .c (.int .i64 600)], (some (36, true))⟩,
    ⟨some 40, .p (.pick (.t 36) (.t 39) (.c (.bool false))), none⟩,
    ⟨some 3, .p (.mov (.t 40)), none⟩])
  (.seq (.seq (.reg [⟨some 41, .p (.lad 1 0), none⟩,
    ⟨some 42, .p (.loadL 1 1 false (some (.t 41))), none⟩,
    ⟨some 43, .p (.len (.t 42)), none⟩,
    ⟨some 44, .p (.mov (.c (.int .i64 0))), none⟩])
  (.block 0 (.loop g9_rut_Check_l0)))
  (.seq (.seq (.reg [⟨some 54, .p (.lad 1 1), none⟩,
    ⟨some 55, .p (.loadL 1 6 true (some (.t 54))), none⟩,
    ⟨some 56, .p (.mov (.c (.int .i64 0))), none⟩])
  (.block 2 (.loop g9_rut_Check_l1)))
  (.seq (.seq (.reg [⟨some 65, .p (.lad 1 7), none⟩,
    ⟨some 66, .p (.loadL 1 1 false (some (.t 65))), none⟩,
    ⟨some 67, .p (.len (.t 66)), none⟩,
    ⟨some 68, .p (.mov (.c (.int .i64 0))), none⟩])
  (.block 4 (.loop g9_rut_Check_l2)))
  (.seq (.seq (.reg [⟨some 89, .p (.lad 1 8), none⟩,
    ⟨some 90, .p (.loadL 1 1 false (some (.t 89))), none⟩,
    ⟨some 91, .p (.len (.t 90)), none⟩,
    ⟨some 92, .p (.mov (.c (.int .i64 0))), none⟩])
  (.block 6 (.loop g9_rut_Check_l3)))
  (.seq (.seq (.reg [⟨some 110, .p (.lad 1 9), none⟩,
    ⟨some 111, .p (.loadL 1 1 false (some (.t 110))), none⟩,
    ⟨some 112, .p (.len (.t 111)), none⟩,
    ⟨some 113, .p (.mov (.c (.int .i64 0))), none⟩])
  (.block 8 (.loop g9_rut_Check_l4)))
  (.seq (.seq (.reg [⟨some 124, .p (.mov (.t 3)), none⟩,
    ⟨some 125, .p (.un .not (.t 124)), none⟩])
  (.cond (.t 125) (.seq (.reg [⟨some 2, .p (.mov (.c (.int .i64 10))), none⟩])
  .ret) .skip))
  (.seq (.reg [⟨some 2, .p (.mov (.c (.int .i64 0))), none⟩])
  .ret)))))))))
def g9_rut_Check : AFn := ⟨g9_rut_Check_c, [.t 2], 1⟩

/-- macadam/claim.Right -/
def g10_claim_Right_c : ACode := (.seq (.reg [⟨some 1, .p (.boxL 1 (.t 0)), none⟩,
    ⟨some 2, .p (.mov (.c (.bool false))), none⟩,
    ⟨some 3, .p (.mov (.c (.int .i64 0))), none⟩])
  (.seq (.seq (.reg [⟨some 5, .p (.loadL 1 7 true none), none⟩,
    ⟨some 6, .calli (.f 4) [.t 5], none⟩,
    ⟨some 4, .p (.mov (.t 6)), none⟩])
  (.seq (.reg [⟨some 7, .p (.mov (.t 4)), none⟩,
    ⟨some 8, .p (.bin .neq (.t 7) (.c (.int .i64 0))), none⟩])
  (.cond (.t 8) (.seq (.reg [⟨some 9, .p (.mov (.t 4)), none⟩,
    ⟨some 2, .p (.mov (.c (.bool false))), none⟩,
    ⟨some 3, .p (.mov (.t 9)), none⟩])
  .ret) .skip)))
  (.seq (.reg [⟨some 10, .p (.loadL 1 7 true none), none⟩,
    ⟨some 11, .calli (.f 42) [.t 10, .c (.sl [] .exact)], none⟩,
    ⟨some 12, .p (.field 8 1 false (.t 11)), none⟩,
    ⟨some 13, .p (.len (.t 12)), none⟩,
    ⟨some 14, .p (.bin .gtr (.t 13) (.c (.int .i64 0))), none⟩,
    ⟨some 2, .p (.mov (.t 14)), none⟩,
    ⟨some 3, .p (.mov (.c (.int .i64 0))), none⟩])
  .ret)))
def g10_claim_Right : AFn := ⟨g10_claim_Right_c, [.t 2, .t 3], 1⟩

/-- macadam/rut.Right -/
def g11_rut_Right_c : ACode := (.seq (.reg [⟨some 1, .p (.boxL 1 (.t 0)), none⟩,
    ⟨some 2, .p (.mov (.c (.bool false))), none⟩,
    ⟨some 3, .p (.mov (.c (.int .i64 0))), none⟩])
  (.seq (.seq (.reg [⟨some 5, .p (.loadL 1 11 true none), none⟩,
    ⟨some 6, .calli (.f 9) [.t 5], none⟩,
    ⟨some 4, .p (.mov (.t 6)), none⟩])
  (.seq (.reg [⟨some 7, .p (.mov (.t 4)), none⟩,
    ⟨some 8, .p (.bin .neq (.t 7) (.c (.int .i64 0))), none⟩])
  (.cond (.t 8) (.seq (.reg [⟨some 9, .p (.mov (.t 4)), none⟩,
    ⟨some 2, .p (.mov (.c (.bool false))), none⟩,
    ⟨some 3, .p (.mov (.t 9)), none⟩])
  .ret) .skip)))
  (.seq (.reg [⟨some 10, .p (.loadL 1 11 true none), none⟩,
    ⟨some 11, .calli (.f 43) [.t 10, .c (.sl [] .exact)], none⟩,
    ⟨some 12, .p (.field 12 1 false (.t 11)), none⟩,
    ⟨some 13, .p (.len (.t 12)), none⟩,
    ⟨some 14, .p (.bin .gtr (.t 13) (.c (.int .i64 0))), none⟩,
    ⟨some 2, .p (.mov (.t 14)), none⟩,
    ⟨some 3, .p (.mov (.c (.int .i64 0))), none⟩])
  .ret)))
def g11_rut_Right : AFn := ⟨g11_rut_Right_c, [.t 2, .t 3], 1⟩

/-- macadam/claim.Wrong -/
def g12_claim_Wrong_l0 : ACode := (.seq (.reg [⟨some 20, .p (.bin .lss (.t 19) (.t 18)), none⟩])
  (.seq (.cond (.t 20) .skip (.exit 0))
  (.seq (.block 1 (.seq (.reg [⟨some 21, .p (.mov (.t 19)), none⟩,
    ⟨some 6, .p (.mov (.t 21)), none⟩])
  (.seq (.reg [⟨some 23, .h (.load 1 false (.t 5)), none⟩,
    ⟨some 24, .p (.mov (.t 6)), none⟩,
    ⟨some 25, .call (.t 23) [.c (.sl [] .exact), .t 24], none⟩,
    ⟨some 22, .p (.mov (.t 25)), none⟩,
    ⟨some 26, .p (.extract (.t 22) 0), none⟩,
    ⟨some 27, .p (.extract (.t 22) 1), none⟩,
    ⟨some 7, .p (.mov (.t 26)), none⟩,
    ⟨some 8, .p (.mov (.t 27)), none⟩])
  (.seq (.reg [⟨some 28, .p (.mov (.t 8)), none⟩])
  (.cond (.t 28) (.seq (.reg [⟨some 29, .p (.mov (.t 7)), none⟩,
    ⟨some 30, .p (.mov (.t 7)), none⟩,
    ⟨some 31, .p (.len (.t 30)), none⟩,
    ⟨some 32, .p (.mov (.t 7)), none⟩,
    ⟨some 33, .p (.len (.t 32)), none⟩,
    ⟨some 34, .p (.slice 1 (.t 29) none (some (.t 31)) (some (.t 33))), none⟩,
    ⟨some 2, .p (.mov (.t 34)), none⟩,
    ⟨some 3, .p (.mov (.c (.int .i64 0))), none⟩])
  .ret) .skip)))))
  (.reg [⟨some 35, .p (.bin .add (.t 19) (.c (.int .i64 1))), none⟩,
    ⟨some 19, .p (.mov (.t 35)), none⟩]))))
def g12_claim_Wrong_c : ACode := (.seq (.reg [⟨some 1, .p (.boxL 1 (.t 0)), none⟩,
    ⟨some 2, .p (.mov (.c (.sl [] .exact))), none⟩,
    ⟨some 3, .p (.mov (.c (.int .i64 0))), none⟩])
  (.seq (.seq (.reg [⟨some 9, .p (.loadL 1 7 true none), none⟩,
    ⟨some 10, .calli (.f 4) [.t 9], none⟩,
    ⟨some 4, .p (.mov (.t 10)), none⟩])
  (.seq (.reg [⟨some 11, .p (.mov (.t 4)), none⟩,
    ⟨some 12, .p (.bin .neq (.t 11) (.c (.int .i64 0))), none⟩])
  (.cond (.t 12) (.seq (.reg [⟨some 13, .p (.mov (.t 4)), none⟩,
    ⟨some 2, .p (.mov (.c (.sl [] .exact))), none⟩,
    ⟨some 3, .p (.mov (.t 13)), none⟩])
  .ret) .skip)))
  (.seq (.reg [⟨some 5, .h (.alloc [.nilf]), none⟩])
  (.seq (.frz [1] (.reg [⟨some 14, .p (.mkfn 44 [] [.t 1, .t 5]), none⟩,
    ⟨none, .h (.store 1 (.t 5) (.t 14)), none⟩]))
  (.seq (.seq (.reg [⟨some 15, .p (.lad 1 5), none⟩,
    ⟨some 16, .p (.loadL 1 1 false (some (.t 15))), none⟩,
    ⟨some 17, .p (.len (.t 16)), none⟩,
    ⟨some 18, .p (.bin .add (.t 17) (.c (.int .i64 1))), none⟩,
    ⟨some 19, .p (.mov (.c (.int .i64 0))), none⟩])
  (.block 0 (.loop g12_claim_Wrong_l0)))
  (.seq (.reg [⟨some 2, .p (.mov (.c (.sl [] .exact))), none⟩,
    ⟨some 3, .p (.mov (.c (.int .i64 0))), none⟩])
  .ret))))))
def g12_claim_Wrong : AFn := ⟨g12_claim_Wrong_c, [.t 2, .t 3], 1⟩

/-- macadam/rut.Wrong -/
def g13_rut_Wrong_l0 : ACode := (.seq (.reg [⟨some 20, .p (.bin .lss (.t 19) (.t 18)), none⟩])
  (.seq (.cond (.t 20) .skip (.exit 0))
  (.seq (.block 1 (.seq (.reg [⟨some 21, .p (.mov (.t 19)), none⟩,
    ⟨some 6, .p (.mov (.t 21)), none⟩])
  (.seq (.reg [⟨some 23, .h (.load 1 false (.t 5)), none⟩,
    ⟨some 24, .p (.mov (.t 6)), none⟩,
    ⟨some 25, .call (.t 23) [.c (.sl [] .exact), .t 24], none⟩,
    ⟨some 22, .p (.mov (.t 25)), none⟩,
    ⟨some 26, .p (.extract (.t 22) 0), none⟩,
    ⟨some 27, .p (.extract (.t 22) 1), none⟩,
    ⟨some 7, .p (.mov (.t 26)), none⟩,
    ⟨some 8, .p (.mov (.t 27)), none⟩])
  (.seq (.reg [⟨some 28, .p (.mov (.t 8)), none⟩])
  (.cond (.t 28) (.seq (.reg [⟨some 29, .p (.mov (.t 7)), none⟩,
    ⟨some 30, .p (.mov (.t 7)), none⟩,
    ⟨some 31, .p (.len (.t 30)), none⟩,
    ⟨some 32, .p (.mov (.t 7)), none⟩,
    ⟨some 33, .p (.len (.t 32)), none⟩,
    ⟨some 34, .p (.slice 1 (.t 29) none (some (.t 31)) (some (.t 33))), none⟩,
    ⟨some 2, .p (.mov (.t 34)), none⟩,
    ⟨some 3, .p (.mov (.c (.int .i64 0))), none⟩])
  .ret) .skip)))))
  (.reg [⟨some 35, .p (.bin .add (.t 19) (.c (.int .i64 1))), none⟩,
    ⟨some 19, .p (.mov (.t 35)), none⟩]))))
def g13_rut_Wrong_c : ACode := (.seq (.reg [⟨some 1, .p (.boxL 1 (.t 0)), none⟩,
    ⟨some 2, .p (.mov (.c (.sl [] .exact))), none⟩,
    ⟨some 3, .p (.mov (.c (.int .i64 0))), none⟩])
  (.seq (.seq (.reg [⟨some 9, .p (.loadL 1 11 true none), none⟩,
    ⟨some 10, .calli (.f 9) [.t 9], none⟩,
    ⟨some 4, .p (.mov (.t 10)), none⟩])
  (.seq (.reg [⟨some 11, .p (.mov (.t 4)), none⟩,
    ⟨some 12, .p (.bin .neq (.t 11) (.c (.int .i64 0))), none⟩])
  (.cond (.t 12) (.seq (.reg [⟨some 13, .p (.mov (.t 4)), none⟩,
    ⟨some 2, .p (.mov (.c (.sl [] .exact))), none⟩,
    ⟨some 3, .p (.mov (.t 13)), none⟩])
  .ret) .skip)))
  (.seq (.reg [⟨some 5, .h (.alloc [.nilf]), none⟩])
  (.seq (.frz [1] (.reg [⟨some 14, .p (.mkfn 45 [] [.t 1, .t 5]), none⟩,
    ⟨none, .h (.store 1 (.t 5) (.t 14)), none⟩]))
  (.seq (.seq (.reg [⟨some 15, .p (.lad 1 9), none⟩,
    ⟨some 16, .p (.loadL 1 1 false (some (.t 15))), none⟩,
    ⟨some 17, .p (.len (.t 16)), none⟩,
    ⟨some 18, .p (.bin .add (.t 17) (.c (.int .i64 1))), none⟩,
    ⟨some 19, .p (.mov (.c (.int .i64 0))), none⟩])
  (.block 0 (.loop g13_rut_Wrong_l0)))
  (.seq (.reg [⟨some 2, .p (.mov (.c (.sl [] .exact))), none⟩,
    ⟨some 3, .p (.mov (.c (.int .i64 0))), none⟩])
  .ret))))))
def g13_rut_Wrong : AFn := ⟨g13_rut_Wrong_c, [.t 2, .t 3], 1⟩

/-- macadam/macadamref00.Like -/
def g14_macadamref00_Like_l0 : ACode := (.seq (.seq (.reg [⟨some 12, .p (.mov (.t 5)), none⟩,
    ⟨some 13, .p (.mov (.t 12)), none⟩,
    ⟨some 14, .p (.mov (.t 6)), (some (13, true))⟩,
    ⟨some 15, .p (.mov (.t 0)), (some (13, true))⟩,
    ⟨some 16, .p (.len (.t 15)), (some (13, true))⟩,
    ⟨some 17, .p (.bin .lss (.t 14) (.t 16)), (some (13, true))⟩,
    ⟨some 18, .p (.pick (.t 13) (.t 17) (.c (.bool false))), none⟩])
  (.cond (.t 18) .skip (.exit 0)))
  (.seq (.block 1 (.reg [⟨some 21, .p (.mov (.t 0)), none⟩,
    ⟨some 22, .p (.mov (.t 6)), none⟩,
    ⟨some 23, .p (.iaddr none 1 (.t 21) (.t 22)), none⟩,
    ⟨some 24, .p (.loadC 1 false (.t 23)), none⟩,
    ⟨some 25, .p (.mov (.t 1)), none⟩,
    ⟨some 26, .p (.mov (.t 6)), none⟩,
    ⟨some 27, .p (.iaddr none 1 (.t 25) (.t 26)), none⟩,
    ⟨some 28, .p (.loadC 1 false (.t 27)), none⟩,
    ⟨some 29, .p (.bin .eql (.t 24) (.t 28)), none⟩,
    ⟨some 5, .p (.mov (.t 29)), none⟩]))
  (.reg [⟨some 19, .p (.mov (.t 6)), none⟩,
    ⟨some 20, .p (.bin .add (.t 19) (.c (.int .i64 1))), none⟩,
    ⟨some 6, .p (.mov (.t 20)), none⟩])))
def g14_macadamref00_Like_c : ACode := (.seq (.reg [⟨some 4, .p (.mov (.c (.bool false))), none⟩])
  (.seq (.reg [⟨some 7, .p (.mov (.t 0)), none⟩,
    ⟨some 8, .p (.len (.t 7)), none⟩,
    ⟨some 9, .p (.mov (.t 1)), none⟩,
    ⟨some 10, .p (.len (.t 9)), none⟩,
    ⟨some 11, .p (.bin .eql (.t 8) (.t 10)), none⟩,
    ⟨some 5, .p (.mov (.t 11)), none⟩])
  (.seq (.seq (.reg [⟨some 6, .p (.mov (.c (.int .i64 0))), none⟩])
  (.block 0 (.loop g14_macadamref00_Like_l0)))
  (.seq (.reg [⟨some 30, .p (.mov (.t 5)), none⟩,
    ⟨some 4, .p (.mov (.t 30)), none⟩])
  .ret))))
def g14_macadamref00_Like : AFn := ⟨g14_macadamref00_Like_c, [.t 4], 2⟩

/-- macadam/claim.Comes -/
def g15_claim_Comes_c : ACode := (.seq (.reg [⟨some 2, .p (.boxL 2 (.t 0)), none⟩,
    ⟨some 3, .p (.boxL 3 (.t 1)), none⟩,
    ⟨some 4, .p (.allocL 4 [.int .i64 0, .int .i64 0]), none⟩,
    ⟨some 5, .p (.mov (.c (.int .i64 0))), none⟩])
  (.seq (.frz [3] (.reg [⟨some 6, .p (.loadL 2 7 true none), none⟩,
    ⟨some 7, .p (.loadL 3 1 false none), none⟩,
    ⟨some 8, .p (.mkfn 47 [] [.t 3]), none⟩,
    ⟨some 9, .calli (.f 46) [.t 6, .t 7, .t 8], none⟩,
    ⟨some 10, .p (.extract (.t 9) 0), none⟩,
    ⟨some 11, .p (.extract (.t 9) 1), none⟩,
    ⟨none, .p (.storeL 4 2 none (.t 10)), none⟩,
    ⟨some 5, .p (.mov (.t 11)), none⟩]))
  .ret))
def g15_claim_Comes : AFn := ⟨g15_claim_Comes_c, [.cellL 4 2 true, .t 5], 2⟩

/-- macadam/rut.Deep -/
def g16_rut_Deep_c : ACode := (.seq (.reg [⟨some 3, .p (.boxL 3 (.t 0)), none⟩,
    ⟨some 6, .p (.allocL 6 [.int .i64 0, .int .i64 0]), none⟩,
    ⟨some 7, .p (.mov (.c (.int .i64 0))), none⟩])
  (.seq (.reg [⟨some 11, .p (.loadL 3 11 true none), none⟩,
    ⟨some 12, .p (.loadL 3 11 true none), none⟩,
    ⟨some 13, .p (.mov (.t 1)), none⟩,
    ⟨some 14, .calli (.f 39) [.t 12, .t 13], none⟩,
    ⟨some 15, .p (.mov (.t 14)), none⟩,
    ⟨some 16, .p (.loadL 3 11 true none), (some (15, true))⟩,
    ⟨some 17, .p (.mov (.t 2)), (some (15, true))⟩,
    ⟨some 18, .calli (.f 40) [.t 16, .t 17], (some (15, true))⟩,
    ⟨some 19, .p (.pick (.t 15) (.t 18) (.c (.bool false))), none⟩,
    ⟨some 20, .calli (.f 48) [.t 11, .t 19], none⟩,
    ⟨some 10, .p (.mov (.t 20)), none⟩,
    ⟨some 21, .p (.extract (.t 10) 0), none⟩,
    ⟨some 22, .p (.extract (.t 10) 1), none⟩,
    ⟨some 8, .p (.allocL 8 [.sl [] .exact, .int .i64 0, .int .i64 0, .int .i64 0, .int .i64 0, .int .i64 0, .int .i64 0, .sl [] .exact, .sl [] .exact, .sl [] .exact, .int .i64 0, .nilm, .sl [] .exact]), none⟩,
    ⟨none, .p (.storeL 8 13 none (.t 21)), none⟩,
    ⟨some 9, .p (.mov (.t 22)), none⟩])
  (.seq (.seq (.reg [⟨some 23, .p (.mov (.t 9)), none⟩,
    ⟨some 24, .p (.bin .neq (.t 23) (.c (.int .i64 0))), none⟩])
  (.cond (.t 24) (.seq (.reg [⟨some 25, .p (.build [.int .i64 0, .int .i64 0] []), none⟩,
    ⟨some 26, .p (.mov (.t 9)), none⟩,
    ⟨none, .p (.storeL 6 2 none (.t 25)), none⟩,
    ⟨some 7, .p (.mov (.t 26)), none⟩])
  .ret) .skip))
  (.seq (.reg [⟨some 27, .p (.loadL 8 13 true none), none⟩,
    ⟨some 28, .p (.mov (.t 1)), none⟩,
    ⟨some 29, .p (.mov (.t 2)), none⟩,
    ⟨some 30, .calli (.f 49) [.t 27, .t 28, .t 29], none⟩,
    ⟨none, .p (.storeL 6 2 none (.t 30)), none⟩,
    ⟨some 7, .p (.mov (.c (.int .i64 0))), none⟩])
  .ret))))
def g16_rut_Deep : AFn := ⟨g16_rut_Deep_c, [.cellL 6 2 true, .t 7], 3⟩

/-- macadam/claim.Rough -/
def g17_claim_Rough_c : ACode := (.seq (.reg [⟨some 2, .p (.boxL 2 (.t 0)), none⟩,
    ⟨some 3, .p (.boxL 3 (.t 1)), none⟩,
    ⟨some 4, .p (.allocL 4 [.int .i64 0, .int .i64 0]), none⟩,
    ⟨some 5, .p (.mov (.c (.int .i64 0))), none⟩])
  (.seq (.frz [3] (.reg [⟨some 6, .p (.loadL 2 7 true none), none⟩,
    ⟨some 7, .p (.loadL 3 1 false none), none⟩,
    ⟨some 8, .p (.mkfn 50 [] [.t 3]), none⟩,
    ⟨some 9, .calli (.f 46) [.t 6, .t 7, .t 8], none⟩,
    ⟨some 10, .p (.extract (.t 9) 0), none⟩,
    ⟨some 11, .p (.extract (.t 9) 1), none⟩,
    ⟨none, .p (.storeL 4 2 none (.t 10)), none⟩,
    ⟨some 5, .p (.mov (.t 11)), none⟩]))
  .ret))
def g17_claim_Rough : AFn := ⟨g17_claim_Rough_c, [.cellL 4 2 true, .t 5], 2⟩

/-- macadam/rut.Wears -/
def g18_rut_Wears_c : ACode := (.seq (.reg [⟨some 2, .p (.boxL 2 (.t 0)), none⟩,
    ⟨some 3, .p (.boxL 3 (.t 1)), none⟩,
    ⟨some 4, .p (.allocL 4 [.int .i64 0, .int .i64 0]), none⟩,
    ⟨some 5, .p (.mov (.c (.int .i64 0))), none⟩])
  (.seq (.reg [⟨some 9, .p (.loadL 2 11 true none), none⟩,
    ⟨some 10, .p (.loadL 3 1 false none), none⟩,
    ⟨some 11, .calli (.f 37) [.t 10, .c (.int .i64 0), .c (.int .i64 2)], none⟩,
    ⟨some 12, .calli (.f 48) [.t 9, .t 11], none⟩,
    ⟨some 8, .p (.mov (.t 12)), none⟩,
    ⟨some 13, .p (.extract (.t 8) 0), none⟩,
    ⟨some 14, .p (.extract (.t 8) 1), none⟩,
    ⟨some 6, .p (.allocL 6 [.sl [] .exact, .int .i64 0, .int .i64 0, .int .i64 0, .int .i64 0, .int .i64 0, .int .i64 0, .sl [] .exact, .sl [] .exact, .sl [] .exact, .int .i64 0, .nilm, .sl [] .exact]), none⟩,
    ⟨none, .p (.storeL 6 13 none (.t 13)), none⟩,
    ⟨some 7, .p (.mov (.t 14)), none⟩])
  (.seq (.seq (.reg [⟨some 15, .p (.mov (.t 7)), none⟩,
    ⟨some 16, .p (.bin .neq (.t 15) (.c (.int .i64 0))), none⟩])
  (.cond (.t 16) (.seq (.reg [⟨some 17, .p (.build [.int .i64 0, .int .i64 0] []), none⟩,
    ⟨some 18, .p (.mov (.t 7)), none⟩,
    ⟨none, .p (.storeL 4 2 none (.t 17)), none⟩,
    ⟨some 5, .p (.mov (.t 18)), none⟩])
  .ret) .skip))
  (.seq (.frz [3] (.reg [⟨some 19, .p (.loadL 6 13 true none), none⟩,
    ⟨some 20, .p (.mkfn 52 [] [.t 3]), none⟩,
    ⟨some 21, .calli (.f 51) [.t 19, .t 20], none⟩,
    ⟨none, .p (.storeL 4 2 none (.t 21)), none⟩,
    ⟨some 5, .p (.mov (.c (.int .i64 0))), none⟩]))
  .ret))))
def g18_rut_Wears : AFn := ⟨g18_rut_Wears_c, [.cellL 4 2 true, .t 5], 2⟩

/-- macadam/claim.Weather -/
def g19_claim_Weather_l0 : ACode := (.seq (.reg [⟨some 21, .p (.bin .lss (.t 20) (.t 19)), none⟩])
  (.seq (.cond (.t 21) .skip (.exit 0))
  (.seq (.block 1 (.seq (.reg [⟨some 22, .p (.iaddr none 7 (.t 18) (.t 20)), none⟩,
    ⟨some 23, .p (.loadC 7 true (.t 22)), none⟩,
    ⟨some 8, .p (.allocL 8 [.int .i64 0, .int .i64 0, .int .i64 0, .int .i64 0, .int .i64 0, .int .i64 0, .int .i64 0]), none⟩,
    ⟨none, .p (.storeL 8 7 none (.t 23)), none⟩])
  (.reg [⟨some 24, .p (.mov (.t 6)), none⟩,
    ⟨some 25, .p (.lad 8 0), none⟩,
    ⟨some 26, .p (.loadL 8 1 false (some (.t 25))), none⟩,
    ⟨some 27, .p (.bin .shl (.c (.int .i64 1)) (.t 26)), none⟩,
    ⟨some 28, .p (.bin .or (.t 24) (.t 27)), none⟩,
    ⟨some 6, .p (.mov (.t 28)), none⟩])))
  (.reg [⟨some 29, .p (.bin .add (.t 20) (.c (.int .i64 1))), none⟩,
    ⟨some 20, .p (.mov (.t 29)), none⟩]))))
def g19_claim_Weather_c : ACode := (.seq (.reg [⟨some 1, .p (.boxL 1 (.t 0)), none⟩,
    ⟨some 2, .p (.mov (.c (.int .i64 0))), none⟩,
    ⟨some 3, .p (.mov (.c (.int .i64 0))), none⟩])
  (.seq (.reg [⟨some 10, .p (.loadL 1 7 true none), none⟩,
    ⟨some 11, .calli (.f 53) [.t 10, .c (.bool true)], none⟩,
    ⟨some 9, .p (.mov (.t 11)), none⟩,
    ⟨some 12, .p (.extract (.t 9) 0), none⟩,
    ⟨some 13, .p (.extract (.t 9) 1), none⟩,
    ⟨some 4, .p (.allocL 4 [.sl [] .exact, .int .i64 0, .int .i64 0, .int .i64 0, .int .i64 0, .sl [] .exact, .int .i64 0, .nilm, .sl [] .exact]), none⟩,
    ⟨none, .p (.storeL 4 9 none (.t 12)), none⟩,
    ⟨some 5, .p (.mov (.t 13)), none⟩])
  (.seq (.seq (.reg [⟨some 14, .p (.mov (.t 5)), none⟩,
    ⟨some 15, .p (.bin .neq (.t 14) (.c (.int .i64 0))), none⟩])
  (.cond (.t 15) (.seq (.reg [⟨some 16, .p (.mov (.t 5)), none⟩,
    ⟨some 2, .p (.mov (.c (.int .i64 0))), none⟩,
    ⟨some 3, .p (.mov (.t 16)), none⟩])
  .ret) .skip))
  (.seq (.reg [⟨some 6, .p (.mov (.c (.int .i64 0))), none⟩])
  (.seq (.seq (.reg [⟨some 17, .p (.lad 4 8), none⟩,
    ⟨some 18, .p (.loadL 4 1 false (some (.t 17))), none⟩,
    ⟨some 19, .p (.len (.t 18)), none⟩,
    ⟨some 20, .p (.mov (.c (.int .i64 0))), none⟩])
  (.block 0 (.loop g19_claim_Weather_l0)))
  (.seq (.reg [⟨some 30, .p (.mov (.t 6)), none⟩,
    ⟨some 2, .p (.mov (.t 30)), none⟩,
    ⟨some 3, .p (.mov (.c (.int .i64 0))), none⟩])
  .ret))))))
def g19_claim_Weather : AFn := ⟨g19_claim_Weather_c, [.t 2, .t 3], 1⟩

/-- macadam/rut.Frost -/
def g20_rut_Frost_c : ACode := (.seq (.reg [⟨some 2, .p (.boxL 2 (.t 0)), none⟩,
    ⟨some 3, .p (.boxL 3 (.t 1)), none⟩,
    ⟨some 4, .p (.mov (.c (.int .i64 0))), none⟩,
    ⟨some 5, .p (.mov (.c (.int .i64 0))), none⟩])
  (.seq (.reg [⟨some 10, .p (.loadL 2 11 true none), none⟩,
    ⟨some 11, .p (.loadL 2 11 true none), none⟩,
    ⟨some 12, .p (.loadL 3 1 false none), none⟩,
    ⟨some 13, .calli (.f 40) [.t 11, .t 12], none⟩,
    ⟨some 14, .calli (.f 48) [.t 10, .t 13], none⟩,
    ⟨some 9, .p (.mov (.t 14)), none⟩,
    ⟨some 15, .p (.extract (.t 9) 0), none⟩,
    ⟨some 16, .p (.extract (.t 9) 1), none⟩,
    ⟨some 6, .p (.allocL 6 [.sl [] .exact, .int .i64 0, .int .i64 0, .int .i64 0, .int .i64 0, .int .i64 0, .int .i64 0, .sl [] .exact, .sl [] .exact, .sl [] .exact, .int .i64 0, .nilm, .sl [] .exact]), none⟩,
    ⟨none, .p (.storeL 6 13 none (.t 15)), none⟩,
    ⟨some 7, .p (.mov (.t 16)), none⟩])
  (.seq (.seq (.reg [⟨some 17, .p (.mov (.t 7)), none⟩,
    ⟨some 18, .p (.bin .neq (.t 17) (.c (.int .i64 0))), none⟩])
  (.cond (.t 18) (.seq (.reg [⟨some 19, .p (.mov (.t 7)), none⟩,
    ⟨some 4, .p (.mov (.c (.int .i64 0))), none⟩,
    ⟨some 5, .p (.mov (.t 19)), none⟩])
  .ret) .skip))
  (.seq (.frz [3] (.reg [⟨some 20, .p (.loadL 6 13 true none), none⟩,
    ⟨some 21, .p (.mkfn 54 [] [.t 3]), none⟩,
    ⟨some 22, .calli (.f 51) [.t 20, .t 21], none⟩,
    ⟨some 8, .p (.allocL 8 [.int .i64 0, .int .i64 0]), none⟩,
    ⟨none, .p (.storeL 8 2 none (.t 22)), none⟩]))
  (.seq (.reg [⟨some 23, .p (.lad 8 0), none⟩,
    ⟨some 24, .p (.loadL 8 1 false (some (.t 23))), none⟩,
    ⟨some 25, .p (.lad 8 1), none⟩,
    ⟨some 26, .p (.loadL 8 1 false (some (.t 25))), none⟩,
    ⟨some 27, .p (.bin .add (.t 24) (.t 26)), none⟩,
    ⟨some 4, .p (.mov (.t 27)), none⟩,
    ⟨some 5, .p (.mov (.c (.int .i64 0))), none⟩])
  .ret)))))
def g20_rut_Frost : AFn := ⟨g20_rut_Frost_c, [.t 4, .t 5], 2⟩

/-- macadam/claim.First -/
def g21_claim_First_l0 : ACode := (.seq (.reg [⟨some 19, .p (.bin .lss (.t 18) (.t 17)), none⟩])
  (.seq (.cond (.t 19) .skip (.exit 0))
  (.seq (.block 1 (.seq (.reg [⟨some 20, .p (.mov (.t 18)), none⟩,
    ⟨some 6, .p (.allocL 6 [.int .i64 0]), none⟩,
    ⟨none, .p (.storeL 6 1 none (.t 20)), none⟩])
  (.seq (.frz [4, 6] (.reg [⟨some 21, .p (.loadL 4 9 true none), none⟩,
    ⟨some 22, .p (.mkfn 56 [] [.t 4, .t 6]), none⟩,
    ⟨some 23, .p (.build [.nilf] [(0, 1, .t 22)]), none⟩,
    ⟨some 24, .calli (.f 55) [.t 21, .t 23], none⟩,
    ⟨some 25, .p (.field 0 1 false (.t 24)), none⟩,
    ⟨some 26, .p (.bin .gtr (.t 25) (.c (.int .i64 0))), none⟩]))
  (.cond (.t 26) (.seq (.reg [⟨some 27, .p (.loadL 6 1 false none), none⟩,
    ⟨some 2, .p (.mov (.t 27)), none⟩,
    ⟨some 3, .p (.mov (.c (.int .i64 0))), none⟩])
  .ret) .skip))))
  (.reg [⟨some 28, .p (.bin .add (.t 18) (.c (.int .i64 1))), none⟩,
    ⟨some 18, .p (.mov (.t 28)), none⟩]))))
def g21_claim_First_c : ACode := (.seq (.reg [⟨some 1, .p (.boxL 1 (.t 0)), none⟩,
    ⟨some 2, .p (.mov (.c (.int .i64 0))), none⟩,
    ⟨some 3, .p (.mov (.c (.int .i64 0))), none⟩])
  (.seq (.reg [⟨some 8, .p (.loadL 1 7 true none), none⟩,
    ⟨some 9, .calli (.f 53) [.t 8, .c (.bool true)], none⟩,
    ⟨some 7, .p (.mov (.t 9)), none⟩,
    ⟨some 10, .p (.extract (.t 7) 0), none⟩,
    ⟨some 11, .p (.extract (.t 7) 1), none⟩,
    ⟨some 4, .p (.allocL 4 [.sl [] .exact, .int .i64 0, .int .i64 0, .int .i64 0, .int .i64 0, .sl [] .exact, .int .i64 0, .nilm, .sl [] .exact]), none⟩,
    ⟨none, .p (.storeL 4 9 none (.t 10)), none⟩,
    ⟨some 5, .p (.mov (.t 11)), none⟩])
  (.seq (.seq (.reg [⟨some 12, .p (.mov (.t 5)), none⟩,
    ⟨some 13, .p (.bin .neq (.t 12) (.c (.int .i64 0))), none⟩])
  (.cond (.t 13) (.seq (.reg [⟨some 14, .p (.mov (.t 5)), none⟩,
    ⟨some 2, .p (.mov (.c (.int .i64 0))), none⟩,
    ⟨some 3, .p (.mov (.t 14)), none⟩])
  .ret) .skip))
  (.seq (.seq (.reg [⟨some 15, .p (.lad 1 0), none⟩,
    ⟨some 16, .p (.loadL 1 1 false (some (.t 15))), none⟩,
    ⟨some 17, .p (.len (.t 16)), none⟩,
    ⟨some 18, .p (.mov (.c (.int .i64 0))), none⟩])
  (.block 0 (.loop g21_claim_First_l0)))
  (.seq (.reg [⟨some 2, .p (.mov (.c (.int .i64 0))), none⟩,
    ⟨some 3, .p (.mov (.c (.int .i64 4))), none⟩])
  .ret)))))
def g21_claim_First : AFn := ⟨g21_claim_First_c, [.t 2, .t 3], 1⟩

/-- macadam/rut.Surely -/
def g22_rut_Surely_c : ACode := (.seq (.reg [⟨some 2, .p (.boxL 2 (.t 0)), none⟩,
    ⟨some 4, .p (.mov (.c (.int .i64 0))), none⟩,
    ⟨some 5, .p (.mov (.c (.int .i64 0))), none⟩])
  (.seq (.reg [⟨some 6, .p (.loadL 2 11 true none), none⟩,
    ⟨some 7, .p (.mov (.t 1)), none⟩,
    ⟨some 8, .calli (.f 58) [.t 6, .t 7, .c (.int .i64 1)], none⟩,
    ⟨some 9, .p (.extract (.t 8) 0), none⟩,
    ⟨some 10, .p (.extract (.t 8) 1), none⟩,
    ⟨some 4, .p (.mov (.t 9)), none⟩,
    ⟨some 5, .p (.mov (.t 10)), none⟩])
  .ret))
def g22_rut_Surely : AFn := ⟨g22_rut_Surely_c, [.t 4, .t 5], 2⟩

/-- macadam/macadamref00.Wrap -/
def g23_macadamref00_Wrap_c : ACode := (.seq (.reg [⟨some 4, .p (.mov (.c (.int .i64 0))), none⟩])
  (.seq (.seq (.reg [⟨some 6, .p (.mov (.t 1)), none⟩,
    ⟨some 7, .p (.bin .leq (.t 6) (.c (.int .i64 0))), none⟩])
  (.cond (.t 7) (.seq (.reg [⟨some 4, .p (.mov (.c (.int .i64 0))), none⟩])
  .ret) .skip))
  (.seq (.reg [⟨some 8, .p (.mov (.t 0)), none⟩,
    ⟨some 9, .p (.mov (.t 1)), none⟩,
    ⟨some 10, .p (.bin .rem (.t 8) (.t 9)), none⟩,
    ⟨some 5, .p (.mov (.t 10)), none⟩])
  (.seq (.seq (.reg [⟨some 11, .p (.mov (.t 5)), none⟩,
    ⟨some 12, .p (.bin .lss (.t 11) (.c (.int .i64 0))), none⟩])
  (.cond (.t 12) (.reg [⟨some 13, .p (.mov (.t 5)), none⟩,
    ⟨some 14, .p (.mov (.t 1)), none⟩,
    ⟨some 15, .p (.bin .add (.t 13) (.t 14)), none⟩,
    ⟨some 5, .p (.mov (.t 15)), none⟩]) .skip))
  (.seq (.reg [⟨some 16, .p (.mov (.t 5)), none⟩,
    ⟨some 4, .p (.mov (.t 16)), none⟩])
  .ret)))))
def g23_macadamref00_Wrap : AFn := ⟨g23_macadamref00_Wrap_c, [.t 4], 2⟩

/-- macadam/claim.Fits -/
def g24_claim_Fits_c : ACode := (.seq (.reg [⟨some 2, .p (.boxL 2 (.t 0)), none⟩,
    ⟨some 3, .p (.boxL 3 (.t 1)), none⟩,
    ⟨some 4, .p (.mov (.c (.bool false))), none⟩,
    ⟨some 5, .p (.mov (.c (.int .i64 0))), none⟩])
  (.seq (.seq (.reg [⟨some 10, .p (.loadL 2 7 true none), none⟩,
    ⟨some 11, .p (.loadL 2 7 true none), none⟩,
    ⟨some 12, .p (.loadL 3 3 true none), none⟩,
    ⟨some 13, .calli (.f 28) [.t 11, .t 12], none⟩,
    ⟨some 14, .calli (.f 53) [.t 10, .t 13], none⟩,
    ⟨some 9, .p (.mov (.t 14)), none⟩,
    ⟨some 15, .p (.extract (.t 9) 0), none⟩,
    ⟨some 16, .p (.extract (.t 9) 1), none⟩,
    ⟨some 6, .p (.allocL 6 [.sl [] .exact, .int .i64 0, .int .i64 0, .int .i64 0, .int .i64 0, .sl [] .exact, .int .i64 0, .nilm, .sl [] .exact]), none⟩,
    ⟨none, .p (.storeL 6 9 none (.t 15)), none⟩,
    ⟨some 7, .p (.mov (.t 16)), none⟩])
  (.seq (.reg [⟨some 17, .p (.mov (.t 7)), none⟩,
    ⟨some 18, .p (.bin .neq (.t 17) (.c (.int .i64 0))), none⟩])
  (.cond (.t 18) (.seq (.reg [⟨some 19, .p (.mov (.t 7)), none⟩,
    ⟨some 4, .p (.mov (.c (.bool false))), none⟩,
    ⟨some 5, .p (.mov (.t 19)), none⟩])
  .ret) .skip)))
  (.seq (.reg [⟨some 20, .p (.loadL 2 7 true none), none⟩,
    ⟨some 8, .p (.allocL 8 [.sl [] .exact, .int .i64 0, .int .i64 0, .int .i64 0, .int .i64 0, .sl [] .exact, .int .i64 0]), none⟩,
    ⟨none, .p (.storeL 8 7 none (.t 20)), none⟩])
  (.seq (.reg [⟨some 21, .p (.lad 2 5), none⟩,
    ⟨some 22, .p (.loadL 2 1 false (some (.t 21))), none⟩,
    ⟨some 23, .p (.lad 2 5), none⟩,
    ⟨some 24, .p (.loadL 2 1 false (some (.t 23))), none⟩,
    ⟨some 25, .p (.len (.t 24)), none⟩,
    ⟨some 26, .p (.lad 2 5), none⟩,
    ⟨some 27, .p (.loadL 2 1 false (some (.t 26))), none⟩,
    ⟨some 28, .p (.len (.t 27)), none⟩,
    ⟨some 29, .p (.slice 3 (.t 22) none (some (.t 25)) (some (.t 28))), none⟩,
    ⟨some 30, .p (.loadL 3 3 true none), none⟩,
    ⟨some 31, .p (.bslice 3 [.int .i64 0, .int .i64 0, .int .i64 0] 1 [(0, .t 30)]), none⟩,
    ⟨some 32, .h (.append 3 24 (.t 29) (.t 31)), none⟩,
    ⟨some 33, .p (.lad 8 5), none⟩,
    ⟨none, .p (.storeL 8 1 (some (.t 33)) (.t 32)), none⟩])
  (.seq (.reg [⟨some 34, .p (.loadL 8 7 true none), none⟩,
    ⟨some 35, .calli (.f 42) [.t 34, .c (.sl [] .exact)], none⟩,
    ⟨some 36, .p (.field 8 1 false (.t 35)), none⟩,
    ⟨some 37, .p (.len (.t 36)), none⟩,
    ⟨some 38, .p (.bin .gtr (.t 37) (.c (.int .i64 0))), none⟩,
    ⟨some 4, .p (.mov (.t 38)), none⟩,
    ⟨some 5, .p (.mov (.c (.int .i64 0))), none⟩])
  .ret)))))
def g24_claim_Fits : AFn := ⟨g24_claim_Fits_c, [.t 4, .t 5], 2⟩

/-- macadam/rut.Fits -/
def g25_rut_Fits_c : ACode := (.seq (.reg [⟨some 2, .p (.boxL 2 (.t 0)), none⟩,
    ⟨some 3, .p (.boxL 3 (.t 1)), none⟩,
    ⟨some 4, .p (.mov (.c (.bool false))), none⟩,
    ⟨some 5, .p (.mov (.c (.int .i64 0))), none⟩])
  (.seq (.seq (.reg [⟨some 9, .p (.loadL 2 11 true none), none⟩,
    ⟨some 10, .p (.loadL 2 11 true none), none⟩,
    ⟨some 11, .p (.loadL 3 4 true none), none⟩,
    ⟨some 12, .calli (.f 41) [.t 10, .t 11], none⟩,
    ⟨some 13, .calli (.f 48) [.t 9, .t 12], none⟩,
    ⟨some 8, .p (.mov (.t 13)), none⟩,
    ⟨some 14, .p (.extract (.t 8) 0), none⟩,
    ⟨some 15, .p (.extract (.t 8) 1), none⟩,
    ⟨some 6, .p (.allocL 6 [.sl [] .exact, .int .i64 0, .int .i64 0, .int .i64 0, .int .i64 0, .int .i64 0, .int .i64 0, .sl [] .exact, .sl [] .exact, .sl [] .exact, .int .i64 0, .nilm, .sl [] .exact]), none⟩,
    ⟨none, .p (.storeL 6 13 none (.t 14)), none⟩,
    ⟨some 7, .p (.mov (.t 15)), none⟩])
  (.seq (.reg [⟨some 16, .p (.mov (.t 7)), none⟩,
    ⟨some 17, .p (.bin .neq (.t 16) (.c (.int .i64 0))), none⟩])
  (.cond (.t 17) (.seq (.reg [⟨some 18, .p (.mov (.t 7)), none⟩,
    ⟨some 4, .p (.mov (.c (.bool false))), none⟩,
    ⟨some 5, .p (.mov (.t 18)), none⟩])
  .ret) .skip)))
  (.seq (.reg [⟨some 19, .p (.lad 2 9), none⟩,
    ⟨some 20, .p (.loadL 2 1 false (some (.t 19))), none⟩,
    ⟨some 21, .p (.lad 2 9), none⟩,
    ⟨some 22, .p (.loadL 2 1 false (some (.t 21))), none⟩,
    ⟨some 23, .p (.len (.t 22)), none⟩,
    ⟨some 24, .p (.lad 2 9), none⟩,
    ⟨some 25, .p (.loadL 2 1 false (some (.t 24))), none⟩,
    ⟨some 26, .p (.len (.t 25)), none⟩,
    ⟨some 27, .p (.slice 4 (.t 20) none (some (.t 23)) (some (.t 26))), none⟩,
    ⟨some 28, .p (.loadL 3 4 true none), none⟩,
    ⟨some 29, .p (.bslice 4 [.int .i64 0, .int .i64 0, .int .i64 0, .int .i64 0] 1 [(0, .t 28)]), none⟩,
    ⟨some 30, .h (.append 4 32 (.t 27) (.t 29)), none⟩,
    ⟨some 31, .p (.lad 2 9), none⟩,
    ⟨none, .p (.storeL 2 1 (some (.t 31)) (.t 30)), none⟩])
  (.seq (.reg [⟨some 32, .p (.loadL 2 11 true none), none⟩,
    ⟨some 33, .calli (.f 43) [.t 32, .c (.sl [] .exact)], none⟩,
    ⟨some 34, .p (.field 12 1 false (.t 33)), none⟩,
    ⟨some 35, .p (.len (.t 34)), none⟩,
    ⟨some 36, .p (.bin .gtr (.t 35) (.c (.int .i64 0))), none⟩,
    ⟨some 4, .p (.mov (.t 36)), none⟩,
    ⟨some 5, .p (.mov (.c (.int .i64 0))), none⟩])
  .ret))))
def g25_rut_Fits : AFn := ⟨g25_rut_Fits_c, [.t 4, .t 5], 2⟩

/-- macadam/claim.within -/
def g26_claim_within_c : ACode := (.seq (.reg [⟨some 6, .p (.mov (.c (.bool false))), none⟩])
  (.seq (.reg [⟨some 7, .p (.mov (.t 1)), none⟩,
    ⟨some 8, .p (.mov (.t 0)), none⟩,
    ⟨some 9, .p (.bin .leq (.t 7) (.t 8)), none⟩,
    ⟨some 10, .p (.mov (.t 9)), none⟩,
    ⟨some 11, .p (.mov (.t 0)), (some (10, true))⟩,
    ⟨some 12, .p (.mov (.t 2)), (some (10, true))⟩,
    ⟨some 13, .p (.bin .leq (.t 11) (.t 12)), (some (10, true))⟩,
    ⟨some 14, .p (.pick (.t 10) (.t 13) (.c (.bool false))), none⟩,
    ⟨some 6, .p (.mov (.t 14)), none⟩])
  .ret))
def g26_claim_within : AFn := ⟨g26_claim_within_c, [.t 6], 3⟩

/-- macadam/claim.isSpan -/
def g27_claim_isSpan_c : ACode := (.seq (.reg [⟨some 4, .p (.boxL 4 (.t 0)), none⟩,
    ⟨some 8, .p (.mov (.c (.bool false))), none⟩])
  (.seq (.reg [⟨some 9, .p (.mov (.t 1)), none⟩,
    ⟨some 10, .p (.lad 4 0), none⟩,
    ⟨some 11, .p (.loadL 4 1 false (some (.t 10))), none⟩,
    ⟨some 12, .p (.bin .leq (.t 9) (.t 11)), none⟩,
    ⟨some 13, .p (.mov (.t 12)), none⟩,
    ⟨some 14, .p (.lad 4 0), (some (13, true))⟩,
    ⟨some 15, .p (.loadL 4 1 false (some (.t 14))), (some (13, true))⟩,
    ⟨some 16, .p (.lad 4 1), (some (13, true))⟩,
    ⟨some 17, .p (.loadL 4 1 false (some (.t 16))), (some (13, true))⟩,
    ⟨some 18, .p (.bin .leq (.t 15) (.t 17)), (some (13, true))⟩,
    ⟨some 19, .p (.pick (.t 13) (.t 18) (.c (.bool false))), none⟩,
    ⟨some 20, .p (.mov (.t 19)), none⟩,
    ⟨some 21, .p (.lad 4 1), (some (20, true))⟩,
    ⟨some 22, .p (.loadL 4 1 false (some (.t 21))), (some (20, true))⟩,
    ⟨some 23, .p (.mov (.t 2)), (some (20, true))⟩,
    ⟨some 24, .p (.bin .leq (.t 22) (.t 23)), (some (20, true))⟩,
    ⟨some 25, .p (.pick (.t 20) (.t 24) (.c (.bool false))), none⟩,
    ⟨some 26, .p (.mov (.t 25)), none⟩,
    ⟨some 27, .p (.lad 4 1), (some (26, true))⟩,
    ⟨some 28, .p (.loadL 4 1 false (some (.t 27))), (some (26, true))⟩,
    ⟨some 29, .p (.lad 4 0), (some (26, true))⟩,
    ⟨some 30, .p (.loadL 4 1 false (some (.t 29))), (some (26, true))⟩,
    ⟨some 31, .p (.bin .sub (.t 28) (.t 30)), (some (26, true))⟩,
    ⟨some 32, .p (.mov (.t 3)), (some (26, true))⟩,
    ⟨some 33, .p (.bin .leq (.t 31) (.t 32)), (some (26, true))⟩,
    ⟨some 34, .p (.pick (.t 26) (.t 33) (.c (.bool false))), none⟩,
    ⟨some 8, .p (.mov (.t 34)), none⟩])
  .ret))
def g27_claim_isSpan : AFn := ⟨g27_claim_isSpan_c, [.t 8], 4⟩

/-- macadam/claim.isClock -/
def g28_claim_isClock_c : ACode := (.seq (.reg [⟨some 2, .p (.boxL 2 (.t 0)), none⟩,
    ⟨some 3, .p (.boxL 3 (.t 1)), none⟩,
    ⟨some 4, .p (.mov (.c (.bool false))), none⟩])
  (.seq (.reg [⟨some 5, .p (.lad 3 0), none⟩,
    ⟨some 6, .p (.loadL 3 1 false (some (.t 5))), none⟩,
    ⟨some 7, .p (.lad 2 0), none⟩,
    ⟨some 8, .p (.loadL 2 1 false (some (.t 7))), none⟩,
    ⟨some 9, .p (.len (.t 8)), none⟩,
    ⟨some 10, .p (.bin .sub (.t 9) (.c (.int .i64 1))), none⟩,
    ⟨some 11, .calli (.f 26) [.t 6, .c (.int .i64 0), .t 10], none⟩,
    ⟨some 12, .p (.mov (.t 11)), none⟩,
    ⟨some 13, .p (.lad 3 1), (some (12, true))⟩,
    ⟨some 14, .p (.loadL 3 1 false (some (.t 13))), (some (12, true))⟩,
    ⟨some 15, .calli (.f 26) [.t 14, .c (.int .i64 0), .c (.int .i64 600)], (some (12, true))⟩,
    ⟨some 16, .p (.pick (.t 12) (.t 15) (.c (.bool false))), none⟩,
    ⟨some 17, .p (.mov (.t 16)), none⟩,
    ⟨some 18, .p (.lad 3 2), (some (17, true))⟩,
    ⟨some 19, .p (.loadL 3 1 false (some (.t 18))), (some (17, true))⟩,
    ⟨some 20, .calli (.f 26) [.t 19, .c (.int .i64 0), .c (.int .i64 5)], (some (17, true))⟩,
    ⟨some 21, .p (.pick (.t 17) (.t 20) (.c (.bool false))), none⟩,
    ⟨some 4, .p (.mov (.t 21)), none⟩])
  .ret))
def g28_claim_isClock : AFn := ⟨g28_claim_isClock_c, [.t 4], 2⟩

/-- macadam/drain.Rain -/
def g29_drain_Rain_c : ACode := (.seq (.reg [⟨some 2, .p (.boxL 2 (.t 0)), none⟩,
    ⟨some 3, .p (.boxL 3 (.t 1)), none⟩,
    ⟨some 4, .p (.allocL 4 [.int .i64 0, .int .i64 0]), none⟩,
    ⟨some 5, .p (.mov (.c (.int .i64 0))), none⟩])
  (.seq (.reg [⟨some 9, .p (.loadL 2 3 true none), none⟩,
    ⟨some 10, .p (.loadL 2 3 true none), none⟩,
    ⟨some 11, .p (.loadL 3 1 false none), none⟩,
    ⟨some 12, .calli (.f 60) [.t 10, .t 11], none⟩,
    ⟨some 13, .calli (.f 59) [.t 9, .t 12], none⟩,
    ⟨some 8, .p (.mov (.t 13)), none⟩,
    ⟨some 14, .p (.extract (.t 8) 0), none⟩,
    ⟨some 15, .p (.extract (.t 8) 1), none⟩,
    ⟨some 6, .p (.allocL 6 [.sl [] .exact, .sl [] .exact, .sl [] .exact, .nilm, .sl [] .exact]), none⟩,
    ⟨none, .p (.storeL 6 5 none (.t 14)), none⟩,
    ⟨some 7, .p (.mov (.t 15)), none⟩])
  (.seq (.seq (.reg [⟨some 16, .p (.mov (.t 7)), none⟩,
    ⟨some 17, .p (.bin .neq (.t 16) (.c (.int .i64 0))), none⟩])
  (.cond (.t 17) (.seq (.reg [⟨some 18, .p (.build [.int .i64 0, .int .i64 0] []), none⟩,
    ⟨some 19, .p (.mov (.t 7)), none⟩,
    ⟨none, .p (.storeL 4 2 none (.t 18)), none⟩,
    ⟨some 5, .p (.mov (.t 19)), none⟩])
  .ret) .skip))
  (.seq (.frz [3] (.reg [⟨some 20, .p (.loadL 6 5 true none), none⟩,
    ⟨some 21, .p (.mkfn 62 [] [.t 3]), none⟩,
    ⟨some 22, .calli (.f 61) [.t 20, .t 21], none⟩,
    ⟨none, .p (.storeL 4 2 none (.t 22)), none⟩,
    ⟨some 5, .p (.mov (.c (.int .i64 0))), none⟩]))
  .ret))))
def g29_drain_Rain : AFn := ⟨g29_drain_Rain_c, [.cellL 4 2 true, .t 5], 2⟩

/-- macadam/macadamtop.pond06 -/
def g30_macadamtop_pond06_c : ACode := (.seq (.reg [⟨some 0, .p (.allocL 0 [.sl [] .exact, .sl [] .exact, .sl [] .exact]), none⟩])
  (.seq (.reg [⟨some 1, .p (.build [.int .i64 0, .int .i64 0, .int .i64 0, .int .i64 0] [(0, 1, .c (.int .i64 20)), (3, 1, .c (.int .i64 (-1)))]), none⟩,
    ⟨some 2, .p (.bslice 4 [.int .i64 0, .int .i64 0, .int .i64 0, .int .i64 0] 1 [(0, .t 1)]), none⟩,
    ⟨some 3, .calli (.f 36) [.c (.int .i64 2), .c (.int .i64 4)], none⟩,
    ⟨some 4, .calli (.f 36) [.c (.int .i64 1), .c (.int .i64 2)], none⟩,
    ⟨some 5, .p (.bslice 2 [.int .i64 0, .int .i64 0] 2 [(0, .t 3), (1, .t 4)]), none⟩,
    ⟨some 6, .p (.build [.int .i64 0, .int .i64 0, .int .i64 0, .int .i64 0] [(1, 1, .c (.int .i64 1)), (2, 1, .c (.int .i64 6))]), none⟩,
    ⟨some 7, .p (.bslice 4 [.int .i64 0, .int .i64 0, .int .i64 0, .int .i64 0] 1 [(0, .t 6)]), none⟩,
    ⟨some 8, .p (.build [.sl [] .exact, .sl [] .exact, .sl [] .exact] [(0, 1, .t 2), (1, 1, .t 5), (2, 1, .t 7)]), none⟩,
    ⟨none, .p (.storeL 0 3 none (.t 8)), none⟩])
  .ret))
def g30_macadamtop_pond06 : AFn := ⟨g30_macadamtop_pond06_c, [.cellL 0 3 true], 0⟩

/-- macadam/stone.Yards -/
def g31_stone_Yards_c : ACode := (.seq (.reg [⟨some 2, .p (.boxL 2 (.t 0)), none⟩,
    ⟨some 3, .p (.boxL 3 (.t 1)), none⟩,
    ⟨some 4, .p (.allocL 4 [.int .i64 0, .int .i64 0]), none⟩,
    ⟨some 5, .p (.mov (.c (.int .i64 0))), none⟩])
  (.seq (.reg [⟨some 9, .p (.loadL 2 6 true none), none⟩,
    ⟨some 10, .p (.loadL 2 6 true none), none⟩,
    ⟨some 11, .p (.loadL 3 1 false none), none⟩,
    ⟨some 12, .calli (.f 64) [.t 10, .t 11], none⟩,
    ⟨some 13, .calli (.f 63) [.t 9, .t 12], none⟩,
    ⟨some 8, .p (.mov (.t 13)), none⟩,
    ⟨some 14, .p (.extract (.t 8) 0), none⟩,
    ⟨some 15, .p (.extract (.t 8) 1), none⟩,
    ⟨some 6, .p (.allocL 6 [.sl [] .exact, .sl [] .exact, .int .i64 0, .int .i64 0, .int .i64 0, .int .i64 0, .nilf, .nilm]), none⟩,
    ⟨none, .p (.storeL 6 8 none (.t 14)), none⟩,
    ⟨some 7, .p (.mov (.t 15)), none⟩])
  (.seq (.seq (.reg [⟨some 16, .p (.mov (.t 7)), none⟩,
    ⟨some 17, .p (.bin .neq (.t 16) (.c (.int .i64 0))), none⟩])
  (.cond (.t 17) (.seq (.reg [⟨some 18, .p (.build [.int .i64 0, .int .i64 0] []), none⟩,
    ⟨some 19, .p (.mov (.t 7)), none⟩,
    ⟨none, .p (.storeL 4 2 none (.t 18)), none⟩,
    ⟨some 5, .p (.mov (.t 19)), none⟩])
  .ret) .skip))
  (.seq (.frz [3] (.reg [⟨some 20, .p (.loadL 6 8 true none), none⟩,
    ⟨some 21, .p (.mkfn 66 [] [.t 3]), none⟩,
    ⟨some 22, .calli (.f 65) [.t 20, .t 21], none⟩,
    ⟨none, .p (.storeL 4 2 none (.t 22)), none⟩,
    ⟨some 5, .p (.mov (.c (.int .i64 0))), none⟩]))
  .ret))))
def g31_stone_Yards : AFn := ⟨g31_stone_Yards_c, [.cellL 4 2 true, .t 5], 2⟩

/-- macadam/macadamtop.heap06 -/
def g32_macadamtop_heap06_l0 : ACode := (.seq (.seq (.reg [⟨some 9, .p (.mov (.t 4)), none⟩,
    ⟨some 10, .p (.lad 1 2), none⟩,
    ⟨some 11, .p (.loadL 1 1 false (some (.t 10))), none⟩,
    ⟨some 12, .p (.len (.t 11)), none⟩,
    ⟨some 13, .p (.bin .lss (.t 9) (.t 12)), none⟩])
  (.cond (.t 13) .skip (.exit 0)))
  (.seq (.block 1 (.seq (.reg [⟨some 16, .p (.lad 1 2), none⟩,
    ⟨some 17, .p (.loadL 1 1 false (some (.t 16))), none⟩,
    ⟨some 18, .p (.mov (.t 4)), none⟩,
    ⟨some 19, .p (.iaddr none 4 (.t 17) (.t 18)), none⟩,
    ⟨some 20, .p (.loadC 4 true (.t 19)), none⟩,
    ⟨some 5, .p (.allocL 5 [.int .i64 0, .int .i64 0, .int .i64 0, .int .i64 0]), none⟩,
    ⟨none, .p (.storeL 5 4 none (.t 20)), none⟩])
  (.reg [⟨some 21, .p (.loadL 3 2 true none), none⟩,
    ⟨some 22, .p (.lad 5 2), none⟩,
    ⟨some 23, .p (.loadL 5 1 false (some (.t 22))), none⟩,
    ⟨some 24, .p (.lad 5 3), none⟩,
    ⟨some 25, .p (.loadL 5 1 false (some (.t 24))), none⟩,
    ⟨some 26, .p (.bin .sub (.t 23) (.t 25)), none⟩,
    ⟨some 27, .p (.lad 5 2), none⟩,
    ⟨some 28, .p (.loadL 5 1 false (some (.t 27))), none⟩,
    ⟨some 29, .p (.lad 5 3), none⟩,
    ⟨some 30, .p (.loadL 5 1 false (some (.t 29))), none⟩,
    ⟨some 31, .p (.bin .add (.t 28) (.t 30)), none⟩,
    ⟨some 32, .calli (.f 36) [.t 26, .t 31], none⟩,
    ⟨some 33, .calli (.f 67) [.t 21, .t 32], none⟩,
    ⟨none, .p (.storeL 3 2 none (.t 33)), none⟩])))
  (.reg [⟨some 14, .p (.mov (.t 4)), none⟩,
    ⟨some 15, .p (.bin .add (.t 14) (.c (.int .i64 1))), none⟩,
    ⟨some 4, .p (.mov (.t 15)), none⟩])))
def g32_macadamtop_heap06_l1 : ACode := (.seq (.seq (.reg [⟨some 38, .p (.mov (.t 7)), none⟩,
    ⟨some 39, .p (.lad 1 1), none⟩,
    ⟨some 40, .p (.loadL 1 1 false (some (.t 39))), none⟩,
    ⟨some 41, .p (.len (.t 40)), none⟩,
    ⟨some 42, .p (.bin .lss (.t 38) (.t 41)), none⟩])
  (.cond (.t 42) .skip (.exit 2)))
  (.seq (.block 3 (.seq (.reg [⟨some 45, .p (.mov (.t 7)), none⟩,
    ⟨some 46, .p (.lad 1 1), none⟩,
    ⟨some 47, .p (.loadL 1 1 false (some (.t 46))), none⟩,
    ⟨some 48, .p (.mov (.t 7)), none⟩,
    ⟨some 49, .p (.iaddr none 2 (.t 47) (.t 48)), none⟩,
    ⟨some 50, .p (.faddr 1 (.t 49)), none⟩,
    ⟨some 51, .p (.loadC 1 false (.t 50)), none⟩,
    ⟨some 52, .p (.lad 1 1), none⟩,
    ⟨some 53, .p (.loadL 1 1 false (some (.t 52))), none⟩,
    ⟨some 54, .p (.mov (.t 7)), none⟩,
    ⟨some 55, .p (.iaddr none 2 (.t 53) (.t 54)), none⟩,
    ⟨some 56, .p (.faddr 0 (.t 55)), none⟩,
    ⟨some 57, .p (.loadC 1 false (.t 56)), none⟩,
    ⟨some 58, .p (.bin .sub (.t 51) (.t 57)), none⟩,
    ⟨some 59, .p (.lad 6 2), none⟩,
    ⟨some 60, .p (.iaddr (some 4) 1 (.t 59) (.t 45)), none⟩,
    ⟨none, .p (.storeL 6 1 (some (.t 60)) (.t 58)), none⟩])
  (.reg [⟨some 61, .p (.lad 6 1), none⟩,
    ⟨some 62, .p (.loadL 6 1 false (some (.t 61))), none⟩,
    ⟨some 63, .p (.mov (.t 7)), none⟩,
    ⟨some 64, .p (.lad 1 1), none⟩,
    ⟨some 65, .p (.loadL 1 1 false (some (.t 64))), none⟩,
    ⟨some 66, .p (.mov (.t 7)), none⟩,
    ⟨some 67, .p (.iaddr none 2 (.t 65) (.t 66)), none⟩,
    ⟨some 68, .p (.faddr 1 (.t 67)), none⟩,
    ⟨some 69, .p (.loadC 1 false (.t 68)), none⟩,
    ⟨some 70, .p (.build [.int .i64 0, .int .i64 0, .int .i64 0, .int .i64 0] [(0, 1, .c (.int .i64 (-1))), (2, 1, .t 63), (3, 1, .t 69)]), none⟩,
    ⟨some 71, .p (.bslice 4 [.int .i64 0, .int .i64 0, .int .i64 0, .int .i64 0] 1 [(0, .t 70)]), none⟩,
    ⟨some 72, .h (.append 4 32 (.t 62) (.t 71)), none⟩,
    ⟨some 73, .p (.lad 6 1), none⟩,
    ⟨none, .p (.storeL 6 1 (some (.t 73)) (.t 72)), none⟩])))
  (.reg [⟨some 43, .p (.mov (.t 7)), none⟩,
    ⟨some 44, .p (.bin .add (.t 43) (.c (.int .i64 1))), none⟩,
    ⟨some 7, .p (.mov (.t 44)), none⟩])))
def g32_macadamtop_heap06_c : ACode := (.seq (.reg [⟨some 1, .p (.boxL 1 (.t 0)), none⟩,
    ⟨some 2, .p (.allocL 2 [.sl [] .exact, .sl [] .exact, .int .i64 0, .int .i64 0, .int .i64 0, .int .i64 0]), none⟩])
  (.seq (.reg [⟨some 8, .calli (.f 36) [.c (.int .i64 0), .c (.int .i64 99)], none⟩,
    ⟨some 3, .p (.allocL 3 [.int .i64 0, .int .i64 0]), none⟩,
    ⟨none, .p (.storeL 3 2 none (.t 8)), none⟩])
  (.seq (.seq (.reg [⟨some 4, .p (.mov (.c (.int .i64 0))), none⟩])
  (.block 0 (.loop g32_macadamtop_heap06_l0)))
  (.seq (.reg [⟨some 34, .p (.loadL 3 2 true none), none⟩,
    ⟨some 35, .p (.build [.int .i64 0, .int .i64 0, .int .i64 0, .int .i64 0] [(2, 2, .t 34)]), none⟩,
    ⟨some 36, .p (.bslice 4 [.int .i64 0, .int .i64 0, .int .i64 0, .int .i64 0] 1 [(0, .t 35)]), none⟩,
    ⟨some 37, .p (.build [.sl [] .exact, .sl [] .exact, .int .i64 0, .int .i64 0, .int .i64 0, .int .i64 0] [(0, 1, .t 36)]), none⟩,
    ⟨some 6, .p (.allocL 6 [.sl [] .exact, .sl [] .exact, .int .i64 0, .int .i64 0, .int .i64 0, .int .i64 0]), none⟩,
    ⟨none, .p (.storeL 6 6 none (.t 37)), none⟩])
  (.seq (.seq (.reg [⟨some 7, .p (.mov (.c (.int .i64 0))), none⟩])
  (.block 2 (.loop g32_macadamtop_heap06_l1)))
  (.seq (.reg [⟨some 74, .p (.loadL 6 6 true none), none⟩,
    ⟨none, .p (.storeL 2 6 none (.t 74)), none⟩])
  .ret))))))
def g32_macadamtop_heap06 : AFn := ⟨g32_macadamtop_heap06_c, [.cellL 2 6 true], 1⟩

/-- macadam/macadamtop.run06 -/
def g33_macadamtop_run06_c : ACode := (.seq (.reg [⟨some 0, .p (.allocL 0 [.sl [] .exact, .int .i64 0, .int .i64 0, .int .i64 0, .int .i64 0, .sl [] .exact, .int .i64 0]), none⟩])
  (.seq (.reg [⟨some 1, .calli (.f 36) [.c (.int .i64 10), .c (.int .i64 11)], none⟩,
    ⟨some 2, .calli (.f 36) [.c (.int .i64 1), .c (.int .i64 2)], none⟩,
    ⟨some 3, .p (.build [.int .i64 0, .int .i64 0, .int .i64 0, .int .i64 0, .int .i64 0, .int .i64 0, .int .i64 0] [(0, 1, .c (.int .i64 12)), (1, 2, .t 1), (3, 2, .t 2)]), none⟩,
    ⟨some 4, .p (.bslice 7 [.int .i64 0, .int .i64 0, .int .i64 0, .int .i64 0, .int .i64 0, .int .i64 0, .int .i64 0] 1 [(0, .t 3)]), none⟩,
    ⟨some 5, .p (.build [.int .i64 0, .int .i64 0, .int .i64 0] [(0, 1, .c (.int .i64 0)), (1, 1, .c (.int .i64 3)), (2, 1, .c (.int .i64 0))]), none⟩,
    ⟨some 6, .p (.build [.int .i64 0, .int .i64 0, .int .i64 0] [(1, 1, .c (.int .i64 15))]), none⟩,
    ⟨some 7, .p (.bslice 3 [.int .i64 0, .int .i64 0, .int .i64 0] 1 [(0, .t 6)]), none⟩,
    ⟨some 8, .p (.build [.sl [] .exact, .int .i64 0, .int .i64 0, .int .i64 0, .int .i64 0, .sl [] .exact, .int .i64 0] [(0, 1, .t 4), (1, 1, .c (.int .i64 3)), (2, 3, .t 5), (5, 1, .t 7), (6, 1, .c (.int .i64 1))]), none⟩,
    ⟨none, .p (.storeL 0 7 none (.t 8)), none⟩])
  .ret))
def g33_macadamtop_run06 : AFn := ⟨g33_macadamtop_run06_c, [.cellL 0 7 true], 0⟩

/-- macadam/claim.Pays -/
def g34_claim_Pays_c : ACode := (.seq (.reg [⟨some 1, .p (.boxL 1 (.t 0)), none⟩,
    ⟨some 2, .p (.mov (.c (.int .i64 0))), none⟩,
    ⟨some 3, .p (.mov (.c (.int .i64 0))), none⟩])
  (.seq (.reg [⟨some 7, .p (.loadL 1 7 true none), none⟩,
    ⟨some 8, .calli (.f 53) [.t 7, .c (.bool true)], none⟩,
    ⟨some 6, .p (.mov (.t 8)), none⟩,
    ⟨some 9, .p (.extract (.t 6) 0), none⟩,
    ⟨some 10, .p (.extract (.t 6) 1), none⟩,
    ⟨some 4, .p (.allocL 4 [.sl [] .exact, .int .i64 0, .int .i64 0, .int .i64 0, .int .i64 0, .sl [] .exact, .int .i64 0, .nilm, .sl [] .exact]), none⟩,
    ⟨none, .p (.storeL 4 9 none (.t 9)), none⟩,
    ⟨some 5, .p (.mov (.t 10)), none⟩])
  (.seq (.seq (.reg [⟨some 11, .p (.mov (.t 5)), none⟩,
    ⟨some 12, .p (.bin .neq (.t 11) (.c (.int .i64 0))), none⟩])
  (.cond (.t 12) (.seq (.reg [⟨some 13, .p (.mov (.t 5)), none⟩,
    ⟨some 2, .p (.mov (.c (.int .i64 0))), none⟩,
    ⟨some 3, .p (.mov (.t 13)), none⟩])
  .ret) .skip))
  (.seq (.seq (.reg [⟨some 14, .p (.iaddr (some 2) 1 (.g 0) (.c (.int .i64 1))), none⟩,
    ⟨some 15, .p (.loadC 1 false (.t 14)), none⟩,
    ⟨some 16, .p (.loadL 4 9 true none), none⟩,
    ⟨some 17, .calli (.f 68) [.t 16], none⟩,
    ⟨some 18, .calli (.t 15) [.t 17], none⟩,
    ⟨some 19, .p (.un .not (.t 18)), none⟩])
  (.cond (.t 19) (.seq (.reg [⟨some 2, .p (.mov (.c (.int .i64 0))), none⟩,
    ⟨some 3, .p (.mov (.c (.int .i64 0))), none⟩])
  .ret) .skip))
  (.seq (.reg [⟨some 20, .p (.loadL 4 9 true none), none⟩,
    ⟨some 21, .p (.loadL 4 9 true none), none⟩,
    ⟨some 22, .p (.mkfn 69 [.t 21] []), none⟩,
    ⟨some 23, .p (.build [.nilf] [(0, 1, .t 22)]), none⟩,
    ⟨some 24, .calli (.f 55) [.t 20, .t 23], none⟩,
    ⟨some 25, .p (.field 0 1 false (.t 24)), none⟩,
    ⟨some 2, .p (.mov (.t 25)), none⟩,
    ⟨some 3, .p (.mov (.c (.int .i64 0))), none⟩])
  .ret)))))
def g34_claim_Pays : AFn := ⟨g34_claim_Pays_c, [.t 2, .t 3], 1⟩

/-- macadam/macadamref00.Just -/
def g35_macadamref00_Just_c : ACode := (.seq (.reg [⟨some 2, .p (.allocL 2 [.int .i64 0, .int .i64 0]), none⟩])
  (.seq (.reg [⟨some 3, .p (.mov (.t 0)), none⟩,
    ⟨some 4, .p (.mov (.t 0)), none⟩,
    ⟨some 5, .calli (.f 36) [.t 3, .t 4], none⟩,
    ⟨none, .p (.storeL 2 2 none (.t 5)), none⟩])
  .ret))
def g35_macadamref00_Just : AFn := ⟨g35_macadamref00_Just_c, [.cellL 2 2 true], 1⟩

/-- macadam/macadamref00.Reach -/
def g36_macadamref00_Reach_c : ACode := (.seq (.reg [⟨some 4, .p (.allocL 4 [.int .i64 0, .int .i64 0]), none⟩])
  (.seq (.reg [⟨some 5, .p (.mov (.t 0)), none⟩,
    ⟨some 6, .p (.mov (.t 1)), none⟩,
    ⟨some 7, .p (.build [.int .i64 0, .int .i64 0] [(0, 1, .t 5), (1, 1, .t 6)]), none⟩,
    ⟨none, .p (.storeL 4 2 none (.t 7)), none⟩])
  .ret))
def g36_macadamref00_Reach : AFn := ⟨g36_macadamref00_Reach_c, [.cellL 4 2 true], 2⟩

/-- macadam/rut.within -/
def g37_rut_within_c : ACode := (.seq (.reg [⟨some 6, .p (.mov (.c (.bool false))), none⟩])
  (.seq (.reg [⟨some 7, .p (.mov (.t 1)), none⟩,
    ⟨some 8, .p (.mov (.t 0)), none⟩,
    ⟨some 9, .p (.bin .leq (.t 7) (.t 8)), none⟩,
    ⟨some 10, .p (.mov (.t 9)), none⟩,
    ⟨some 11, .p (.mov (.t 0)), (some (10, true))⟩,
    ⟨some 12, .p (.mov (.t 2)), (some (10, true))⟩,
    ⟨some 13, .p (.bin .leq (.t 11) (.t 12)), (some (10, true))⟩,
    ⟨some 14, .p (.pick (.t 10) (.t 13) (.c (.bool false))), none⟩,
    ⟨some 6, .p (.mov (.t 14)), none⟩])
  .ret))
def g37_rut_within : AFn := ⟨g37_rut_within_c, [.t 6], 3⟩

/-- macadam/rut.isSpan -/
def g38_rut_isSpan_c : ACode := (.seq (.reg [⟨some 3, .p (.boxL 3 (.t 0)), none⟩,
    ⟨some 6, .p (.mov (.c (.bool false))), none⟩])
  (.seq (.reg [⟨some 7, .p (.lad 3 0), none⟩,
    ⟨some 8, .p (.loadL 3 1 false (some (.t 7))), none⟩,
    ⟨some 9, .p (.bin .leq (.c (.int .i64 0)) (.t 8)), none⟩,
    ⟨some 10, .p (.mov (.t 9)), none⟩,
    ⟨some 11, .p (.lad 3 0), (some (10, true))⟩,
    ⟨some 12, .p (.loadL 3 1 false (some (.t 11))), (some (10, true))⟩,
    ⟨some 13, .p (.lad 3 1), (some (10, true))⟩,
    ⟨some 14, .p (.loadL 3 1 false (some (.t 13))), (some (10, true))⟩,
    ⟨some 15, .p (.bin .leq (.t 12) (.t 14)), (some (10, true))⟩,
    ⟨some 16, .p (.pick (.t 10) (.t 15) (.c (.bool false))), none⟩,
    ⟨some 17, .p (.mov (.t 16)), none⟩,
    ⟨some 18, .p (.lad 3 1), (some (17, true))⟩,
    ⟨some 19, .p (.loadL 3 1 false (some (.t 18))), (some (17, true))⟩,
    ⟨some 20, .p (.mov (.t 1)), (some (17, true))⟩,
    ⟨some 21, .p (.bin .leq (.t 19) (.t 20)), (some (17, true))⟩,
    ⟨some 22, .p (.pick (.t 17) (.t 21) (.c (.bool false))), none⟩,
    ⟨some 23, .p (.mov (.t 22)), none⟩,
    ⟨some 24, .p (.lad 3 1), (some (23, true))⟩,
    ⟨some 25, .p (.loadL 3 1 false (some (.t 24))), (some (23, true))⟩,
    ⟨some 26, .p (.lad 3 0), (some (23, true))⟩,
    ⟨some 27, .p (.loadL 3 1 false (some (.t 26))), (some (23, true))⟩,
    ⟨some 28, .p (.bin .sub (.t 25) (.t 27)), (some (23, true))⟩,
    ⟨some 29, .p (.mov (.t 2)), (some (23, true))⟩,
    ⟨some 30, .p (.bin .leq (.t 28) (.t 29)), (some (23, true))⟩,
    ⟨some 31, .p (.pick (.t 23) (.t 30) (.c (.bool false))), none⟩,
    ⟨some 6, .p (.mov (.t 31)), none⟩])
  .ret))
def g38_rut_isSpan : AFn := ⟨g38_rut_isSpan_c, [.t 6], 3⟩

/-- macadam/rut.isMile -/
def g39_rut_isMile_c : ACode := (.seq (.reg [⟨some 2, .p (.boxL 2 (.t 0)), none⟩,
    ⟨some 4, .p (.mov (.c (.bool false))), none⟩])
  (.seq (.reg [⟨some 5, .p (.mov (.t 1)), none⟩,
    ⟨some 6, .p (.lad 2 0), none⟩,
    ⟨some 7, .p (.loadL 2 1 false (some (.t 6))), none⟩,
    ⟨some 8, .p (.len (.t 7)), none⟩,
    ⟨some 9, .p (.bin .sub (.t 8) (.c (.int .i64 1))), none⟩,
    ⟨some 10, .calli (.f 37) [.t 5, .c (.int .i64 0), .t 9], none⟩,
    ⟨some 4, .p (.mov (.t 10)), none⟩])
  .ret))
def g39_rut_isMile : AFn := ⟨g39_rut_isMile_c, [.t 4], 2⟩

/-- macadam/rut.isDay -/
def g40_rut_isDay_c : ACode := (.seq (.reg [⟨some 2, .p (.boxL 2 (.t 0)), none⟩,
    ⟨some 4, .p (.mov (.c (.bool false))), none⟩])
  (.seq (.reg [⟨some 5, .p (.mov (.t 1)), none⟩,
    ⟨some 6, .p (.lad 2 7), none⟩,
    ⟨some 7, .p (.loadL 2 1 false (some (.t 6))), none⟩,
    ⟨some 8, .p (.len (.t 7)), none⟩,
    ⟨some 9, .p (.bin .sub (.t 8) (.c (.int .i64 1))), none⟩,
    ⟨some 10, .calli (.f 37) [.t 5, .c (.int .i64 0), .t 9], none⟩,
    ⟨some 4, .p (.mov (.t 10)), none⟩])
  .ret))
def g40_rut_isDay : AFn := ⟨g40_rut_isDay_c, [.t 4], 2⟩

/-- macadam/rut.isStaff -/
def g41_rut_isStaff_c : ACode := (.seq (.reg [⟨some 2, .p (.boxL 2 (.t 0)), none⟩,
    ⟨some 3, .p (.boxL 3 (.t 1)), none⟩,
    ⟨some 4, .p (.mov (.c (.bool false))), none⟩])
  (.seq (.reg [⟨some 5, .p (.loadL 2 11 true none), none⟩,
    ⟨some 6, .p (.lad 3 0), none⟩,
    ⟨some 7, .p (.loadL 3 1 false (some (.t 6))), none⟩,
    ⟨some 8, .calli (.f 39) [.t 5, .t 7], none⟩,
    ⟨some 9, .p (.mov (.t 8)), none⟩,
    ⟨some 10, .p (.loadL 2 11 true none), (some (9, true))⟩,
    ⟨some 11, .p (.lad 3 1), (some (9, true))⟩,
    ⟨some 12, .p (.loadL 3 1 false (some (.t 11))), (some (9, true))⟩,
    ⟨some 13, .calli (.f 40) [.t 10, .t 12], (some (9, true))⟩,
    ⟨some 14, .p (.pick (.t 9) (.t 13) (.c (.bool false))), none⟩,
    ⟨some 15, .p (.mov (.t 14)), none⟩,
    ⟨some 16, .p (.lad 3 2), (some (15, true))⟩,
    ⟨some 17, .p (.loadL 3 1 false (some (.t 16))), (some (15, true))⟩,
    ⟨some 18, .calli (.f 37) [.t 17, .c (.int .i64 0), .c (.int .i64 600)], (some (15, true))⟩,
    ⟨some 19, .p (.pick (.t 15) (.t 18) (.c (.bool false))), none⟩,
    ⟨some 20, .p (.mov (.t 19)), none⟩,
    ⟨some 21, .p (.lad 3 3), (some (20, true))⟩,
    ⟨some 22, .p (.loadL 3 1 false (some (.t 21))), (some (20, true))⟩,
    ⟨some 23, .calli (.f 37) [.t 22, .c (.int .i64 0), .c (.int .i64 5)], (some (20, true))⟩,
    ⟨some 24, .p (.pick (.t 20) (.t 23) (.c (.bool false))), none⟩,
    ⟨some 4, .p (.mov (.t 24)), none⟩])
  .ret))
def g41_rut_isStaff : AFn := ⟨g41_rut_isStaff_c, [.t 4], 2⟩

/-- macadam/claim.opened -/
def g42_claim_opened_l0 : ACode := (.seq (.reg [⟨some 20, .p (.bin .lss (.t 19) (.t 18)), none⟩])
  (.seq (.cond (.t 20) .skip (.exit 0))
  (.seq (.block 1 (.seq (.reg [⟨some 21, .p (.mov (.t 19)), none⟩,
    ⟨some 22, .p (.iaddr none 3 (.t 17) (.t 19)), none⟩,
    ⟨some 23, .p (.loadC 3 true (.t 22)), none⟩,
    ⟨some 7, .p (.allocL 7 [.int .i64 0, .int .i64 0, .int .i64 0]), none⟩,
    ⟨some 6, .p (.mov (.t 21)), none⟩,
    ⟨none, .p (.storeL 7 3 none (.t 23)), none⟩])
  (.seq (.reg [⟨some 24, .p (.mov (.t 1)), none⟩,
    ⟨some 25, .p (.mov (.t 6)), none⟩,
    ⟨some 26, .calli (.f 70) [.t 24, .t 25], none⟩,
    ⟨some 27, .p (.un .not (.t 26)), none⟩])
  (.cond (.t 27) (.reg [⟨some 28, .p (.faddr 0 (.t 5)), none⟩,
    ⟨some 29, .p (.faddr 5 (.t 28)), none⟩,
    ⟨some 30, .h (.load 1 false (.t 29)), none⟩,
    ⟨some 31, .p (.loadL 7 3 true none), none⟩,
    ⟨some 32, .p (.bslice 3 [.int .i64 0, .int .i64 0, .int .i64 0] 1 [(0, .t 31)]), none⟩,
    ⟨some 33, .h (.append 3 24 (.t 30) (.t 32)), none⟩,
    ⟨some 34, .p (.faddr 0 (.t 5)), none⟩,
    ⟨some 35, .p (.faddr 5 (.t 34)), none⟩,
    ⟨none, .h (.store 1 (.t 35) (.t 33)), none⟩]) .skip))))
  (.reg [⟨some 36, .p (.bin .add (.t 19) (.c (.int .i64 1))), none⟩,
    ⟨some 19, .p (.mov (.t 36)), none⟩]))))
def g42_claim_opened_b1 : ACode := (.block 3 (.reg [⟨some 40, .p (.faddr 8 (.t 5)), none⟩,
    ⟨some 41, .h (.load 1 false (.t 40)), none⟩,
    ⟨some 42, .p (.loadL 8 7 true none), none⟩,
    ⟨some 43, .p (.bslice 7 [.int .i64 0, .int .i64 0, .int .i64 0, .int .i64 0, .int .i64 0, .int .i64 0, .int .i64 0] 1 [(0, .t 42)]), none⟩,
    ⟨some 44, .h (.append 7 56 (.t 41) (.t 43)), none⟩,
    ⟨some 45, .p (.faddr 8 (.t 5)), none⟩,
    ⟨none, .h (.store 1 (.t 45) (.t 44)), none⟩]))
def g42_claim_opened_c : ACode := (.seq (.reg [⟨some 2, .p (.boxL 2 (.t 0)), none⟩,
    ⟨some 4, .p (.allocL 4 [.sl [] .exact, .int .i64 0, .int .i64 0, .int .i64 0, .int .i64 0, .sl [] .exact, .int .i64 0, .nilm, .sl [] .exact]), none⟩])
  (.seq (.reg [⟨some 9, .p (.loadL 2 7 true none), none⟩,
    ⟨some 10, .h .mkmap, none⟩,
    ⟨some 11, .p (.loadC 2 true (.g 1)), none⟩,
    ⟨none, .h (.mapupd 2 (.t 10) (.t 11) (.c (.bool false))), none⟩,
    ⟨some 12, .p (.mov (.t 10)), none⟩,
    ⟨some 13, .p (.build [.sl [] .exact, .int .i64 0, .int .i64 0, .int .i64 0, .int .i64 0, .sl [] .exact, .int .i64 0, .nilm, .sl [] .exact] [(0, 7, .t 9), (7, 1, .t 12)]), none⟩,
    ⟨some 5, .p (.allocL 5 [.sl [] .exact, .int .i64 0, .int .i64 0, .int .i64 0, .int .i64 0, .sl [] .exact, .int .i64 0, .nilm, .sl [] .exact]), none⟩,
    ⟨none, .p (.storeL 5 9 none (.t 13)), none⟩])
  (.shr 5 (.seq (.reg [⟨some 14, .p (.faddr 0 (.t 5)), none⟩,
    ⟨some 15, .p (.faddr 5 (.t 14)), none⟩,
    ⟨none, .h (.store 1 (.t 15) (.c (.sl [] .exact))), none⟩])
  (.seq (.seq (.reg [⟨some 16, .p (.lad 2 5), none⟩,
    ⟨some 17, .p (.loadL 2 1 false (some (.t 16))), none⟩,
    ⟨some 18, .p (.len (.t 17)), none⟩,
    ⟨some 19, .p (.mov (.c (.int .i64 0))), none⟩])
  (.block 0 (.loop g42_claim_opened_l0)))
  (.seq (.seq (.reg [⟨some 37, .h (.load 9 true (.t 5)), none⟩,
    ⟨some 38, .call (.f 71) [.t 37], none⟩])
  (.block 2 (.rangeF (.t 38) [39] (.reg [⟨some 8, .p (.allocL 8 [.int .i64 0, .int .i64 0, .int .i64 0, .int .i64 0, .int .i64 0, .int .i64 0, .int .i64 0]), none⟩,
    ⟨none, .p (.storeL 8 7 none (.t 39)), none⟩]) g42_claim_opened_b1)))
  (.seq (.reg [⟨some 46, .h (.load 9 true (.t 5)), none⟩,
    ⟨none, .p (.storeL 4 9 none (.t 46)), none⟩])
  .ret)))))))
def g42_claim_opened : AFn := ⟨g42_claim_opened_c, [.cellL 4 9 true], 2⟩

/-- macadam/rut.opened -/
def g43_rut_opened_l0 : ACode := (.seq (.reg [⟨some 23, .p (.bin .lss (.t 22) (.t 21)), none⟩])
  (.seq (.cond (.t 23) .skip (.exit 0))
  (.seq (.block 1 (.seq (.reg [⟨some 24, .p (.iaddr none 2 (.t 20) (.t 22)), none⟩,
    ⟨some 25, .p (.loadC 2 true (.t 24)), none⟩,
    ⟨some 7, .p (.allocL 7 [.int .i64 0, .int .i64 0]), none⟩,
    ⟨none, .p (.storeL 7 2 none (.t 25)), none⟩])
  (.seq (.reg [⟨some 26, .p (.lad 7 0), none⟩,
    ⟨some 27, .p (.loadL 7 1 false (some (.t 26))), none⟩,
    ⟨some 28, .p (.lad 7 1), none⟩,
    ⟨some 29, .p (.loadL 7 1 false (some (.t 28))), none⟩,
    ⟨some 30, .p (.build [.int .i64 0, .int .i64 0] [(0, 1, .t 27), (1, 1, .t 29)]), none⟩,
    ⟨some 8, .p (.allocL 8 [.int .i64 0, .int .i64 0]), none⟩,
    ⟨none, .p (.storeL 8 2 none (.t 30)), none⟩])
  (.seq (.reg [⟨some 31, .p (.loadL 8 2 true none), none⟩,
    ⟨some 32, .p (.loadC 2 true (.g 2)), none⟩,
    ⟨some 33, .p (.eqn (some 2) true (.t 31) (.t 32)), none⟩])
  (.cond (.t 33) (.reg [⟨some 34, .p (.faddr 11 (.t 5)), none⟩,
    ⟨some 35, .h (.load 1 false (.t 34)), none⟩,
    ⟨some 36, .p (.loadL 8 2 true none), none⟩,
    ⟨none, .h (.mapupd 2 (.t 35) (.t 36) (.c (.bool true))), none⟩]) .skip)))))
  (.reg [⟨some 37, .p (.bin .add (.t 22) (.c (.int .i64 1))), none⟩,
    ⟨some 22, .p (.mov (.t 37)), none⟩]))))
def g43_rut_opened_l1 : ACode := (.seq (.reg [⟨some 53, .p (.bin .lss (.t 52) (.t 51)), none⟩])
  (.seq (.cond (.t 53) .skip (.exit 6))
  (.seq (.block 7 (.seq (.reg [⟨some 54, .p (.mov (.t 52)), none⟩,
    ⟨some 13, .p (.mov (.t 54)), none⟩])
  (.seq (.reg [⟨some 56, .p (.loadC 1 false (.t 9)), none⟩,
    ⟨some 57, .p (.loadC 3 true (.t 10)), none⟩,
    ⟨some 58, .p (.mov (.t 11)), none⟩,
    ⟨some 59, .p (.mov (.t 13)), none⟩,
    ⟨some 60, .p (.loadC 1 false (.t 3)), none⟩,
    ⟨some 61, .call (.t 56) [.t 57, .t 58, .t 59, .t 60], none⟩,
    ⟨some 55, .p (.mov (.t 61)), none⟩,
    ⟨some 62, .p (.extract (.t 55) 0), none⟩,
    ⟨some 63, .p (.extract (.t 55) 1), none⟩,
    ⟨some 14, .p (.allocL 14 [.int .i64 0, .int .i64 0]), none⟩,
    ⟨none, .p (.storeL 14 2 none (.t 62)), none⟩,
    ⟨some 15, .p (.mov (.t 63)), none⟩])
  (.seq (.seq (.reg [⟨some 64, .p (.mov (.t 15)), none⟩,
    ⟨some 65, .p (.un .not (.t 64)), none⟩])
  (.cond (.t 65) (.exit 5) .skip))
  (.reg [⟨some 66, .p (.mov (.t 13)), none⟩,
    ⟨some 67, .p (.loadL 14 2 true none), none⟩,
    ⟨some 68, .p (.lad 12 4), none⟩,
    ⟨some 69, .p (.iaddr (some 4) 2 (.t 68) (.t 66)), none⟩,
    ⟨none, .p (.storeL 12 2 (some (.t 69)) (.t 67)), none⟩])))))
  (.reg [⟨some 70, .p (.bin .add (.t 52) (.c (.int .i64 1))), none⟩,
    ⟨some 52, .p (.mov (.t 70)), none⟩]))))
def g43_rut_opened_b2 : ACode := (.block 5 (.seq (.reg [⟨some 46, .p (.loadC 3 true (.t 10)), none⟩,
    ⟨some 47, .p (.mov (.t 11)), none⟩,
    ⟨some 48, .p (.build [.int .i64 0, .int .i64 0, .int .i64 0, .int .i64 0, .int .i64 0, .int .i64 0, .int .i64 0, .int .i64 0, .int .i64 0, .int .i64 0, .int .i64 0, .int .i64 0] [(0, 3, .t 46), (3, 1, .t 47)]), none⟩,
    ⟨some 12, .p (.allocL 12 [.int .i64 0, .int .i64 0, .int .i64 0, .int .i64 0, .int .i64 0, .int .i64 0, .int .i64 0, .int .i64 0, .int .i64 0, .int .i64 0, .int .i64 0, .int .i64 0]), none⟩,
    ⟨none, .p (.storeL 12 12 none (.t 48)), none⟩])
  (.seq (.seq (.reg [⟨some 49, .p (.faddr 0 (.t 2)), none⟩,
    ⟨some 50, .p (.loadC 1 false (.t 49)), none⟩,
    ⟨some 51, .p (.len (.t 50)), none⟩,
    ⟨some 52, .p (.mov (.c (.int .i64 0))), none⟩])
  (.block 6 (.loop g43_rut_opened_l1)))
  (.reg [⟨some 71, .p (.faddr 12 (.t 5)), none⟩,
    ⟨some 72, .h (.load 1 false (.t 71)), none⟩,
    ⟨some 73, .p (.loadL 12 12 true none), none⟩,
    ⟨some 74, .p (.bslice 12 [.int .i64 0, .int .i64 0, .int .i64 0, .int .i64 0, .int .i64 0, .int .i64 0, .int .i64 0, .int .i64 0, .int .i64 0, .int .i64 0, .int .i64 0, .int .i64 0] 1 [(0, .t 73)]), none⟩,
    ⟨some 75, .h (.append 12 96 (.t 72) (.t 74)), none⟩,
    ⟨some 76, .p (.faddr 12 (.t 5)), none⟩,
    ⟨none, .h (.store 1 (.t 76) (.t 75)), none⟩]))))
def g43_rut_opened_b3 : ACode := (.block 3 (.scope (.seq .skip
  (.seq (.reg [⟨some 43, .h (.load 13 true (.t 5)), none⟩,
    ⟨some 44, .call (.f 74) [.t 43], none⟩])
  (.block 4 (.frz [10] (.rangeF (.t 44) [45] (.reg [⟨some 11, .p (.mov (.t 45)), none⟩]) g43_rut_opened_b2)))))))
def g43_rut_opened_c : ACode := (.seq (.reg [⟨some 2, .p (.boxL 2 (.t 0)), none⟩,
    ⟨some 3, .p (.boxL 3 (.t 1)), none⟩,
    ⟨some 4, .p (.allocL 4 [.sl [] .exact, .int .i64 0, .int .i64 0, .int .i64 0, .int .i64 0, .int .i64 0, .int .i64 0, .sl [] .exact, .sl [] .exact, .sl [] .exact, .int .i64 0, .nilm, .sl [] .exact]), none⟩])
  (.seq (.reg [⟨some 16, .p (.loadL 2 11 true none), none⟩,
    ⟨some 17, .h .mkmap, none⟩,
    ⟨some 18, .p (.build [.sl [] .exact, .int .i64 0, .int .i64 0, .int .i64 0, .int .i64 0, .int .i64 0, .int .i64 0, .sl [] .exact, .sl [] .exact, .sl [] .exact, .int .i64 0, .nilm, .sl [] .exact] [(0, 11, .t 16), (11, 1, .t 17)]), none⟩,
    ⟨some 5, .h (.alloc [.sl [] .exact, .int .i64 0, .int .i64 0, .int .i64 0, .int .i64 0, .int .i64 0, .int .i64 0, .sl [] .exact, .sl [] .exact, .sl [] .exact, .int .i64 0, .nilm, .sl [] .exact]), none⟩,
    ⟨none, .h (.store 13 (.t 5) (.t 18)), none⟩])
  (.seq (.seq (.reg [⟨some 19, .p (.lad 2 8), none⟩,
    ⟨some 20, .p (.loadL 2 1 false (some (.t 19))), none⟩,
    ⟨some 21, .p (.len (.t 20)), none⟩,
    ⟨some 22, .p (.mov (.c (.int .i64 0))), none⟩])
  (.block 0 (.loop g43_rut_opened_l0)))
  (.seq (.reg [⟨some 38, .h (.load 13 true (.t 5)), none⟩,
    ⟨some 39, .p (.mkfn 72 [.t 38] []), none⟩,
    ⟨some 9, .p (.allocL 9 [.nilf]), none⟩,
    ⟨none, .p (.storeL 9 1 none (.t 39)), none⟩])
  (.seq (.seq (.reg [⟨some 40, .h (.load 13 true (.t 5)), none⟩,
    ⟨some 41, .call (.f 73) [.t 40], none⟩])
  (.block 2 (.frz [2, 3, 9] (.rangeF (.t 41) [42] (.reg [⟨some 10, .p (.allocL 10 [.int .i64 0, .int .i64 0, .int .i64 0]), none⟩,
    ⟨none, .p (.storeL 10 3 none (.t 42)), none⟩]) g43_rut_opened_b3))))
  (.seq (.reg [⟨some 77, .h (.load 13 true (.t 5)), none⟩,
    ⟨none, .p (.storeL 4 13 none (.t 77)), none⟩])
  .ret))))))
def g43_rut_opened : AFn := ⟨g43_rut_opened_c, [.cellL 4 13 true], 2⟩

/-- macadam/claim.Wrong$1 -/
def g44_claim_Wrong_1_l0 : ACode := (.seq (.seq (.reg [⟨some 34, .p (.mov (.t 10)), none⟩,
    ⟨some 35, .p (.faddr 5 (.t 2)), none⟩,
    ⟨some 36, .p (.loadC 1 false (.t 35)), none⟩,
    ⟨some 37, .p (.len (.t 36)), none⟩,
    ⟨some 38, .p (.bin .lss (.t 34) (.t 37)), none⟩])
  (.cond (.t 38) .skip (.exit 0)))
  (.seq (.block 1 (.seq (.reg [⟨some 42, .h (.load 1 false (.t 3)), none⟩,
    ⟨some 43, .p (.mov (.t 0)), none⟩,
    ⟨some 44, .p (.mov (.t 8)), none⟩,
    ⟨some 45, .p (.mov (.t 8)), none⟩,
    ⟨some 46, .p (.slice 1 (.t 43) none (some (.t 44)) (some (.t 45))), none⟩,
    ⟨some 47, .p (.mov (.t 10)), none⟩,
    ⟨some 48, .p (.bslice 1 [.int .i64 0] 1 [(0, .t 47)]), none⟩,
    ⟨some 49, .h (.append 1 8 (.t 46) (.t 48)), none⟩,
    ⟨some 50, .p (.mov (.t 1)), none⟩,
    ⟨some 51, .call (.t 42) [.t 49, .t 50], none⟩,
    ⟨some 41, .p (.mov (.t 51)), none⟩,
    ⟨some 52, .p (.extract (.t 41) 0), none⟩,
    ⟨some 53, .p (.extract (.t 41) 1), none⟩,
    ⟨some 11, .p (.mov (.t 52)), none⟩,
    ⟨some 12, .p (.mov (.t 53)), none⟩])
  (.seq (.reg [⟨some 54, .p (.mov (.t 12)), none⟩])
  (.cond (.t 54) (.seq (.reg [⟨some 55, .p (.mov (.t 11)), none⟩,
    ⟨some 6, .p (.mov (.t 55)), none⟩,
    ⟨some 7, .p (.mov (.c (.bool true))), none⟩])
  .ret) .skip))))
  (.reg [⟨some 39, .p (.mov (.t 10)), none⟩,
    ⟨some 40, .p (.bin .add (.t 39) (.c (.int .i64 1))), none⟩,
    ⟨some 10, .p (.mov (.t 40)), none⟩])))
def g44_claim_Wrong_1_c : ACode := (.seq (.reg [⟨some 6, .p (.mov (.c (.sl [] .exact))), none⟩,
    ⟨some 7, .p (.mov (.c (.bool false))), none⟩])
  (.seq (.reg [⟨some 13, .p (.mov (.t 0)), none⟩,
    ⟨some 14, .p (.len (.t 13)), none⟩,
    ⟨some 8, .p (.mov (.t 14)), none⟩])
  (.seq (.seq (.reg [⟨some 15, .p (.mov (.t 8)), none⟩,
    ⟨some 16, .p (.mov (.t 1)), none⟩,
    ⟨some 17, .p (.bin .eql (.t 15) (.t 16)), none⟩])
  (.cond (.t 17) (.seq (.reg [⟨some 18, .p (.mov (.t 0)), none⟩,
    ⟨some 19, .p (.loadC 7 true (.t 2)), none⟩,
    ⟨some 20, .p (.mov (.t 0)), none⟩,
    ⟨some 21, .calli (.f 42) [.t 19, .t 20], none⟩,
    ⟨some 22, .p (.field 8 1 false (.t 21)), none⟩,
    ⟨some 23, .p (.len (.t 22)), none⟩,
    ⟨some 24, .p (.bin .gtr (.t 23) (.c (.int .i64 0))), none⟩,
    ⟨some 6, .p (.mov (.t 18)), none⟩,
    ⟨some 7, .p (.mov (.t 24)), none⟩])
  .ret) .skip))
  (.seq (.reg [⟨some 9, .p (.mov (.c (.int .i64 0))), none⟩])
  (.seq (.seq (.reg [⟨some 25, .p (.mov (.t 8)), none⟩,
    ⟨some 26, .p (.bin .gtr (.t 25) (.c (.int .i64 0))), none⟩])
  (.cond (.t 26) (.reg [⟨some 27, .p (.mov (.t 0)), none⟩,
    ⟨some 28, .p (.mov (.t 8)), none⟩,
    ⟨some 29, .p (.bin .sub (.t 28) (.c (.int .i64 1))), none⟩,
    ⟨some 30, .p (.iaddr none 1 (.t 27) (.t 29)), none⟩,
    ⟨some 31, .p (.loadC 1 false (.t 30)), none⟩,
    ⟨some 32, .p (.bin .add (.t 31) (.c (.int .i64 1))), none⟩,
    ⟨some 9, .p (.mov (.t 32)), none⟩]) .skip))
  (.seq (.seq (.reg [⟨some 33, .p (.mov (.t 9)), none⟩,
    ⟨some 10, .p (.mov (.t 33)), none⟩])
  (.block 0 (.loop g44_claim_Wrong_1_l0)))
  (.seq (.reg [⟨some 6, .p (.mov (.c (.sl [] .exact))), none⟩,
    ⟨some 7, .p (.mov (.c (.bool false))), none⟩])
  .ret)))))))
def g44_claim_Wrong_1 : AFn := ⟨g44_claim_Wrong_1_c, [.t 6, .t 7], 4⟩

/-- macadam/rut.Wrong$1 -/
def g45_rut_Wrong_1_l0 : ACode := (.seq (.seq (.reg [⟨some 34, .p (.mov (.t 10)), none⟩,
    ⟨some 35, .p (.faddr 9 (.t 2)), none⟩,
    ⟨some 36, .p (.loadC 1 false (.t 35)), none⟩,
    ⟨some 37, .p (.len (.t 36)), none⟩,
    ⟨some 38, .p (.bin .lss (.t 34) (.t 37)), none⟩])
  (.cond (.t 38) .skip (.exit 0)))
  (.seq (.block 1 (.seq (.reg [⟨some 42, .h (.load 1 false (.t 3)), none⟩,
    ⟨some 43, .p (.mov (.t 0)), none⟩,
    ⟨some 44, .p (.mov (.t 8)), none⟩,
    ⟨some 45, .p (.mov (.t 8)), none⟩,
    ⟨some 46, .p (.slice 1 (.t 43) none (some (.t 44)) (some (.t 45))), none⟩,
    ⟨some 47, .p (.mov (.t 10)), none⟩,
    ⟨some 48, .p (.bslice 1 [.int .i64 0] 1 [(0, .t 47)]), none⟩,
    ⟨some 49, .h (.append 1 8 (.t 46) (.t 48)), none⟩,
    ⟨some 50, .p (.mov (.t 1)), none⟩,
    ⟨some 51, .call (.t 42) [.t 49, .t 50], none⟩,
    ⟨some 41, .p (.mov (.t 51)), none⟩,
    ⟨some 52, .p (.extract (.t 41) 0), none⟩,
    ⟨some 53, .p (.extract (.t 41) 1), none⟩,
    ⟨some 11, .p (.mov (.t 52)), none⟩,
    ⟨some 12, .p (.mov (.t 53)), none⟩])
  (.seq (.reg [⟨some 54, .p (.mov (.t 12)), none⟩])
  (.cond (.t 54) (.seq (.reg [⟨some 55, .p (.mov (.t 11)), none⟩,
    ⟨some 6, .p (.mov (.t 55)), none⟩,
    ⟨some 7, .p (.mov (.c (.bool true))), none⟩])
  .ret) .skip))))
  (.reg [⟨some 39, .p (.mov (.t 10)), none⟩,
    ⟨some 40, .p (.bin .add (.t 39) (.c (.int .i64 1))), none⟩,
    ⟨some 10, .p (.mov (.t 40)), none⟩])))
def g45_rut_Wrong_1_c : ACode := (.seq (.reg [⟨some 6, .p (.mov (.c (.sl [] .exact))), none⟩,
    ⟨some 7, .p (.mov (.c (.bool false))), none⟩])
  (.seq (.reg [⟨some 13, .p (.mov (.t 0)), none⟩,
    ⟨some 14, .p (.len (.t 13)), none⟩,
    ⟨some 8, .p (.mov (.t 14)), none⟩])
  (.seq (.seq (.reg [⟨some 15, .p (.mov (.t 8)), none⟩,
    ⟨some 16, .p (.mov (.t 1)), none⟩,
    ⟨some 17, .p (.bin .eql (.t 15) (.t 16)), none⟩])
  (.cond (.t 17) (.seq (.reg [⟨some 18, .p (.mov (.t 0)), none⟩,
    ⟨some 19, .p (.loadC 11 true (.t 2)), none⟩,
    ⟨some 20, .p (.mov (.t 0)), none⟩,
    ⟨some 21, .calli (.f 43) [.t 19, .t 20], none⟩,
    ⟨some 22, .p (.field 12 1 false (.t 21)), none⟩,
    ⟨some 23, .p (.len (.t 22)), none⟩,
    ⟨some 24, .p (.bin .gtr (.t 23) (.c (.int .i64 0))), none⟩,
    ⟨some 6, .p (.mov (.t 18)), none⟩,
    ⟨some 7, .p (.mov (.t 24)), none⟩])
  .ret) .skip))
  (.seq (.reg [⟨some 9, .p (.mov (.c (.int .i64 0))), none⟩])
  (.seq (.seq (.reg [⟨some 25, .p (.mov (.t 8)), none⟩,
    ⟨some 26, .p (.bin .gtr (.t 25) (.c (.int .i64 0))), none⟩])
  (.cond (.t 26) (.reg [⟨some 27, .p (.mov (.t 0)), none⟩,
    ⟨some 28, .p (.mov (.t 8)), none⟩,
    ⟨some 29, .p (.bin .sub (.t 28) (.c (.int .i64 1))), none⟩,
    ⟨some 30, .p (.iaddr none 1 (.t 27) (.t 29)), none⟩,
    ⟨some 31, .p (.loadC 1 false (.t 30)), none⟩,
    ⟨some 32, .p (.bin .add (.t 31) (.c (.int .i64 1))), none⟩,
    ⟨some 9, .p (.mov (.t 32)), none⟩]) .skip))
  (.seq (.seq (.reg [⟨some 33, .p (.mov (.t 9)), none⟩,
    ⟨some 10, .p (.mov (.t 33)), none⟩])
  (.block 0 (.loop g45_rut_Wrong_1_l0)))
  (.seq (.reg [⟨some 6, .p (.mov (.c (.sl [] .exact))), none⟩,
    ⟨some 7, .p (.mov (.c (.bool false))), none⟩])
  .ret)))))))
def g45_rut_Wrong_1 : AFn := ⟨g45_rut_Wrong_1_c, [.t 6, .t 7], 4⟩

/-- macadam/claim.stage -/
def g46_claim_stage_c : ACode := (.seq (.reg [⟨some 3, .p (.boxL 3 (.t 0)), none⟩,
    ⟨some 5, .p (.boxL 5 (.t 2)), none⟩,
    ⟨some 6, .p (.allocL 6 [.int .i64 0, .int .i64 0]), none⟩,
    ⟨some 7, .p (.mov (.c (.int .i64 0))), none⟩])
  (.seq (.reg [⟨some 11, .p (.loadL 3 7 true none), none⟩,
    ⟨some 12, .p (.mov (.t 1)), none⟩,
    ⟨some 13, .p (.lad 3 0), none⟩,
    ⟨some 14, .p (.loadL 3 1 false (some (.t 13))), none⟩,
    ⟨some 15, .p (.len (.t 14)), none⟩,
    ⟨some 16, .p (.bin .sub (.t 15) (.c (.int .i64 1))), none⟩,
    ⟨some 17, .calli (.f 26) [.t 12, .c (.int .i64 0), .t 16], none⟩,
    ⟨some 18, .calli (.f 53) [.t 11, .t 17], none⟩,
    ⟨some 10, .p (.mov (.t 18)), none⟩,
    ⟨some 19, .p (.extract (.t 10) 0), none⟩,
    ⟨some 20, .p (.extract (.t 10) 1), none⟩,
    ⟨some 8, .p (.allocL 8 [.sl [] .exact, .int .i64 0, .int .i64 0, .int .i64 0, .int .i64 0, .sl [] .exact, .int .i64 0, .nilm, .sl [] .exact]), none⟩,
    ⟨none, .p (.storeL 8 9 none (.t 19)), none⟩,
    ⟨some 9, .p (.mov (.t 20)), none⟩])
  (.seq (.seq (.reg [⟨some 21, .p (.mov (.t 9)), none⟩,
    ⟨some 22, .p (.bin .neq (.t 21) (.c (.int .i64 0))), none⟩])
  (.cond (.t 22) (.seq (.reg [⟨some 23, .p (.build [.int .i64 0, .int .i64 0] []), none⟩,
    ⟨some 24, .p (.mov (.t 9)), none⟩,
    ⟨none, .p (.storeL 6 2 none (.t 23)), none⟩,
    ⟨some 7, .p (.mov (.t 24)), none⟩])
  .ret) .skip))
  (.seq (.frz [5, 8] (.reg [⟨some 25, .p (.loadL 8 9 true none), none⟩,
    ⟨some 26, .p (.mkfn 75 [] [.t 5, .t 8]), none⟩,
    ⟨some 27, .p (.build [.nilf] [(0, 1, .t 26)]), none⟩,
    ⟨some 28, .calli (.f 55) [.t 25, .t 27], none⟩,
    ⟨none, .p (.storeL 6 2 none (.t 28)), none⟩,
    ⟨some 7, .p (.mov (.c (.int .i64 0))), none⟩]))
  .ret))))
def g46_claim_stage : AFn := ⟨g46_claim_stage_c, [.cellL 6 2 true, .t 7], 3⟩

/-- macadam/claim.Comes$1 -/
def g47_claim_Comes_1_c : ACode := (.seq (.reg [⟨some 3, .p (.boxL 3 (.t 0)), none⟩,
    ⟨some 4, .p (.boxL 4 (.t 1)), none⟩,
    ⟨some 5, .p (.mov (.c (.int .i64 0))), none⟩])
  (.seq (.reg [⟨some 6, .p (.loadC 1 false (.t 2)), none⟩,
    ⟨some 7, .p (.lad 4 1), none⟩,
    ⟨some 8, .p (.iaddr (some 3) 1 (.t 7) (.t 6)), none⟩,
    ⟨some 9, .p (.loadL 4 1 false (some (.t 8))), none⟩,
    ⟨some 5, .p (.mov (.t 9)), none⟩])
  .ret))
def g47_claim_Comes_1 : AFn := ⟨g47_claim_Comes_1_c, [.t 5], 3⟩

/-- macadam/rut.asked -/
def g48_rut_asked_c : ACode := (.seq (.reg [⟨some 2, .p (.boxL 2 (.t 0)), none⟩,
    ⟨some 4, .p (.allocL 4 [.sl [] .exact, .int .i64 0, .int .i64 0, .int .i64 0, .int .i64 0, .int .i64 0, .int .i64 0, .sl [] .exact, .sl [] .exact, .sl [] .exact, .int .i64 0, .nilm, .sl [] .exact]), none⟩,
    ⟨some 5, .p (.mov (.c (.int .i64 0))), none⟩])
  (.seq (.seq (.reg [⟨some 8, .p (.loadL 2 11 true none), none⟩,
    ⟨some 9, .calli (.f 9) [.t 8], none⟩,
    ⟨some 6, .p (.mov (.t 9)), none⟩])
  (.seq (.reg [⟨some 10, .p (.mov (.t 6)), none⟩,
    ⟨some 11, .p (.bin .neq (.t 10) (.c (.int .i64 0))), none⟩])
  (.cond (.t 11) (.seq (.reg [⟨some 12, .p (.build [.sl [] .exact, .int .i64 0, .int .i64 0, .int .i64 0, .int .i64 0, .int .i64 0, .int .i64 0, .sl [] .exact, .sl [] .exact, .sl [] .exact, .int .i64 0, .nilm, .sl [] .exact] []), none⟩,
    ⟨some 13, .p (.mov (.t 6)), none⟩,
    ⟨none, .p (.storeL 4 13 none (.t 12)), none⟩,
    ⟨some 5, .p (.mov (.t 13)), none⟩])
  .ret) .skip)))
  (.seq (.seq (.reg [⟨some 14, .p (.mov (.t 1)), none⟩,
    ⟨some 15, .p (.un .not (.t 14)), none⟩])
  (.cond (.t 15) (.seq (.reg [⟨some 16, .p (.build [.sl [] .exact, .int .i64 0, .int .i64 0, .int .i64 0, .int .i64 0, .int .i64 0, .int .i64 0, .sl [] .exact, .sl [] .exact, .sl [] .exact, .int .i64 0, .nilm, .sl [] .exact] []), none⟩,
    ⟨none, .p (.storeL 4 13 none (.t 16)), none⟩,
    ⟨some 5, .p (.mov (.c (.int .i64 11))), none⟩])
  .ret) .skip))
  (.seq (.reg [⟨some 17, .p (.loadL 2 11 true none), none⟩,
    ⟨some 18, .calli (.f 43) [.t 17, .c (.sl [] .exact)], none⟩,
    ⟨some 7, .p (.allocL 7 [.sl [] .exact, .int .i64 0, .int .i64 0, .int .i64 0, .int .i64 0, .int .i64 0, .int .i64 0, .sl [] .exact, .sl [] .exact, .sl [] .exact, .int .i64 0, .nilm, .sl [] .exact]), none⟩,
    ⟨none, .p (.storeL 7 13 none (.t 18)), none⟩])
  (.seq (.seq (.reg [⟨some 19, .p (.lad 7 12), none⟩,
    ⟨some 20, .p (.loadL 7 1 false (some (.t 19))), none⟩,
    ⟨some 21, .p (.len (.t 20)), none⟩,
    ⟨some 22, .p (.bin .eql (.t 21) (.c (.int .i64 0))), none⟩])
  (.cond (.t 22) (.seq (.reg [⟨some 23, .p (.loadL 7 13 true none), none⟩,
    ⟨none, .p (.storeL 4 13 none (.t 23)), none⟩,
    ⟨some 5, .p (.mov (.c (.int .i64 12))), none⟩])
  .ret) .skip))
  (.seq (.reg [⟨some 24, .p (.loadL 7 13 true none), none⟩,
    ⟨none, .p (.storeL 4 13 none (.t 24)), none⟩,
    ⟨some 5, .p (.mov (.c (.int .i64 0))), none⟩])
  .ret))))))
def g48_rut_asked : AFn := ⟨g48_rut_asked_c, [.cellL 4 13 true, .t 5], 2⟩

/-- (macadam/rut.book).deep -/
def g49_rut_book_deep_c : ACode := (.seq (.reg [⟨some 3, .p (.boxL 3 (.t 0)), none⟩,
    ⟨some 4, .p (.boxL 4 (.t 1)), none⟩,
    ⟨some 5, .p (.boxL 5 (.t 2)), none⟩,
    ⟨some 6, .p (.allocL 6 [.int .i64 0, .int .i64 0]), none⟩])
  (.seq (.frz [3, 4, 5] (.reg [⟨some 7, .p (.loadL 3 13 true none), none⟩,
    ⟨some 8, .p (.mkfn 76 [] [.t 3, .t 4, .t 5]), none⟩,
    ⟨some 9, .calli (.f 51) [.t 7, .t 8], none⟩,
    ⟨none, .p (.storeL 6 2 none (.t 9)), none⟩]))
  .ret))
def g49_rut_book_deep : AFn := ⟨g49_rut_book_deep_c, [.cellL 6 2 true], 3⟩

/-- macadam/claim.Rough$1 -/
def g50_claim_Rough_1_c : ACode := (.seq (.reg [⟨some 3, .p (.boxL 3 (.t 0)), none⟩,
    ⟨some 4, .p (.boxL 4 (.t 1)), none⟩,
    ⟨some 5, .p (.mov (.c (.int .i64 0))), none⟩])
  (.seq (.reg [⟨some 6, .p (.loadC 1 false (.t 2)), none⟩,
    ⟨some 7, .p (.lad 4 4), none⟩,
    ⟨some 8, .p (.iaddr (some 3) 1 (.t 7) (.t 6)), none⟩,
    ⟨some 9, .p (.loadL 4 1 false (some (.t 8))), none⟩,
    ⟨some 5, .p (.mov (.t 9)), none⟩])
  .ret))
def g50_claim_Rough_1 : AFn := ⟨g50_claim_Rough_1_c, [.t 5], 3⟩

/-- (macadam/rut.book).told -/
def g51_rut_book_told_l0 : ACode := (.seq (.reg [⟨some 19, .p (.bin .lss (.t 18) (.t 17)), none⟩])
  (.seq (.cond (.t 19) .skip (.exit 0))
  (.seq (.block 1 (.seq (.reg [⟨some 20, .p (.iaddr none 12 (.t 16) (.t 18)), none⟩,
    ⟨some 21, .p (.loadC 12 true (.t 20)), none⟩,
    ⟨some 7, .p (.allocL 7 [.int .i64 0, .int .i64 0, .int .i64 0, .int .i64 0, .int .i64 0, .int .i64 0, .int .i64 0, .int .i64 0, .int .i64 0, .int .i64 0, .int .i64 0, .int .i64 0]), none⟩,
    ⟨none, .p (.storeL 7 12 none (.t 21)), none⟩])
  (.seq (.reg [⟨some 22, .p (.mov (.t 1)), none⟩,
    ⟨some 23, .p (.loadL 7 12 true none), none⟩,
    ⟨some 24, .calli (.t 22) [.t 23], none⟩,
    ⟨some 8, .p (.allocL 8 [.int .i64 0, .int .i64 0]), none⟩,
    ⟨none, .p (.storeL 8 2 none (.t 24)), none⟩])
  (.reg [⟨some 25, .p (.lad 5 0), none⟩,
    ⟨some 26, .p (.loadL 5 1 false (some (.t 25))), none⟩,
    ⟨some 27, .p (.lad 8 0), none⟩,
    ⟨some 28, .p (.loadL 8 1 false (some (.t 27))), none⟩,
    ⟨some 29, .p (.mn [.t 26, .t 28]), none⟩,
    ⟨some 30, .p (.lad 5 1), none⟩,
    ⟨some 31, .p (.loadL 5 1 false (some (.t 30))), none⟩,
    ⟨some 32, .p (.lad 8 1), none⟩,
    ⟨some 33, .p (.loadL 8 1 false (some (.t 32))), none⟩,
    ⟨some 34, .p (.mx [.t 31, .t 33]), none⟩,
    ⟨some 35, .p (.build [.int .i64 0, .int .i64 0] [(0, 1, .t 29), (1, 1, .t 34)]), none⟩,
    ⟨none, .p (.storeL 5 2 none (.t 35)), none⟩]))))
  (.reg [⟨some 36, .p (.bin .add (.t 18) (.c (.int .i64 1))), none⟩,
    ⟨some 18, .p (.mov (.t 36)), none⟩]))))
def g51_rut_book_told_c : ACode := (.seq (.reg [⟨some 2, .p (.boxL 2 (.t 0)), none⟩,
    ⟨some 4, .p (.allocL 4 [.int .i64 0, .int .i64 0]), none⟩])
  (.seq (.reg [⟨some 9, .p (.mov (.t 1)), none⟩,
    ⟨some 10, .p (.lad 2 12), none⟩,
    ⟨some 11, .p (.loadL 2 1 false (some (.t 10))), none⟩,
    ⟨some 12, .p (.iaddr none 12 (.t 11) (.c (.int .i64 0))), none⟩,
    ⟨some 13, .p (.loadC 12 true (.t 12)), none⟩,
    ⟨some 14, .calli (.t 9) [.t 13], none⟩,
    ⟨some 5, .p (.allocL 5 [.int .i64 0, .int .i64 0]), none⟩,
    ⟨none, .p (.storeL 5 2 none (.t 14)), none⟩])
  (.seq (.seq (.reg [⟨some 15, .p (.lad 2 12), none⟩,
    ⟨some 16, .p (.loadL 2 1 false (some (.t 15))), none⟩,
    ⟨some 17, .p (.len (.t 16)), none⟩,
    ⟨some 18, .p (.mov (.c (.int .i64 0))), none⟩])
  (.block 0 (.loop g51_rut_book_told_l0)))
  (.seq (.reg [⟨some 37, .p (.loadL 5 2 true none), none⟩,
    ⟨none, .p (.storeL 4 2 none (.t 37)), none⟩])
  .ret))))
def g51_rut_book_told : AFn := ⟨g51_rut_book_told_c, [.cellL 4 2 true], 2⟩

/-- macadam/rut.Wears$1 -/
def g52_rut_Wears_1_c : ACode := (.seq (.reg [⟨some 2, .p (.boxL 2 (.t 0)), none⟩,
    ⟨some 3, .p (.allocL 3 [.int .i64 0, .int .i64 0]), none⟩])
  (.seq (.reg [⟨some 4, .p (.loadC 1 false (.t 1)), none⟩,
    ⟨some 5, .p (.lad 2 0), none⟩,
    ⟨some 6, .p (.iaddr (some 3) 1 (.t 5) (.t 4)), none⟩,
    ⟨some 7, .p (.loadL 2 1 false (some (.t 6))), none⟩,
    ⟨some 8, .p (.loadC 1 false (.t 1)), none⟩,
    ⟨some 9, .p (.lad 2 0), none⟩,
    ⟨some 10, .p (.iaddr (some 3) 1 (.t 9) (.t 8)), none⟩,
    ⟨some 11, .p (.loadL 2 1 false (some (.t 10))), none⟩,
    ⟨some 12, .p (.build [.int .i64 0, .int .i64 0] [(0, 1, .t 7), (1, 1, .t 11)]), none⟩,
    ⟨none, .p (.storeL 3 2 none (.t 12)), none⟩])
  .ret))
def g52_rut_Wears_1 : AFn := ⟨g52_rut_Wears_1_c, [.cellL 3 2 true], 2⟩

/-- macadam/claim.asked -/
def g53_claim_asked_c : ACode := (.seq (.reg [⟨some 2, .p (.boxL 2 (.t 0)), none⟩,
    ⟨some 4, .p (.allocL 4 [.sl [] .exact, .int .i64 0, .int .i64 0, .int .i64 0, .int .i64 0, .sl [] .exact, .int .i64 0, .nilm, .sl [] .exact]), none⟩,
    ⟨some 5, .p (.mov (.c (.int .i64 0))), none⟩])
  (.seq (.seq (.reg [⟨some 8, .p (.loadL 2 7 true none), none⟩,
    ⟨some 9, .calli (.f 4) [.t 8], none⟩,
    ⟨some 6, .p (.mov (.t 9)), none⟩])
  (.seq (.reg [⟨some 10, .p (.mov (.t 6)), none⟩,
    ⟨some 11, .p (.bin .neq (.t 10) (.c (.int .i64 0))), none⟩])
  (.cond (.t 11) (.seq (.reg [⟨some 12, .p (.build [.sl [] .exact, .int .i64 0, .int .i64 0, .int .i64 0, .int .i64 0, .sl [] .exact, .int .i64 0, .nilm, .sl [] .exact] []), none⟩,
    ⟨some 13, .p (.mov (.t 6)), none⟩,
    ⟨none, .p (.storeL 4 9 none (.t 12)), none⟩,
    ⟨some 5, .p (.mov (.t 13)), none⟩])
  .ret) .skip)))
  (.seq (.seq (.reg [⟨some 14, .p (.mov (.t 1)), none⟩,
    ⟨some 15, .p (.un .not (.t 14)), none⟩])
  (.cond (.t 15) (.seq (.reg [⟨some 16, .p (.build [.sl [] .exact, .int .i64 0, .int .i64 0, .int .i64 0, .int .i64 0, .sl [] .exact, .int .i64 0, .nilm, .sl [] .exact] []), none⟩,
    ⟨none, .p (.storeL 4 9 none (.t 16)), none⟩,
    ⟨some 5, .p (.mov (.c (.int .i64 61))), none⟩])
  .ret) .skip))
  (.seq (.reg [⟨some 17, .p (.loadL 2 7 true none), none⟩,
    ⟨some 18, .calli (.f 42) [.t 17, .c (.sl [] .exact)], none⟩,
    ⟨some 7, .p (.allocL 7 [.sl [] .exact, .int .i64 0, .int .i64 0, .int .i64 0, .int .i64 0, .sl [] .exact, .int .i64 0, .nilm, .sl [] .exact]), none⟩,
    ⟨none, .p (.storeL 7 9 none (.t 18)), none⟩])
  (.seq (.seq (.reg [⟨some 19, .p (.lad 7 8), none⟩,
    ⟨some 20, .p (.loadL 7 1 false (some (.t 19))), none⟩,
    ⟨some 21, .p (.len (.t 20)), none⟩,
    ⟨some 22, .p (.bin .eql (.t 21) (.c (.int .i64 0))), none⟩])
  (.cond (.t 22) (.seq (.reg [⟨some 23, .p (.loadL 7 9 true none), none⟩,
    ⟨none, .p (.storeL 4 9 none (.t 23)), none⟩,
    ⟨some 5, .p (.mov (.c (.int .i64 62))), none⟩])
  .ret) .skip))
  (.seq (.reg [⟨some 24, .p (.loadL 7 9 true none), none⟩,
    ⟨none, .p (.storeL 4 9 none (.t 24)), none⟩,
    ⟨some 5, .p (.mov (.c (.int .i64 0))), none⟩])
  .ret))))))
def g53_claim_asked : AFn := ⟨g53_claim_asked_c, [.cellL 4 9 true, .t 5], 2⟩

/-- macadam/rut.Frost$1 -/
def g54_rut_Frost_1_c : ACode := (.seq (.reg [⟨some 2, .p (.boxL 2 (.t 0)), none⟩,
    ⟨some 3, .p (.allocL 3 [.int .i64 0, .int .i64 0]), none⟩])
  (.seq (.reg [⟨some 4, .p (.lad 2 3), none⟩,
    ⟨some 5, .p (.loadL 2 1 false (some (.t 4))), none⟩,
    ⟨some 6, .p (.loadC 1 false (.t 1)), none⟩,
    ⟨some 7, .p (.bin .shr (.t 5) (.t 6)), none⟩,
    ⟨some 8, .p (.bin .and (.t 7) (.c (.int .i64 1))), none⟩,
    ⟨some 9, .p (.lad 2 3), none⟩,
    ⟨some 10, .p (.loadL 2 1 false (some (.t 9))), none⟩,
    ⟨some 11, .p (.loadC 1 false (.t 1)), none⟩,
    ⟨some 12, .p (.bin .shr (.t 10) (.t 11)), none⟩,
    ⟨some 13, .p (.bin .and (.t 12) (.c (.int .i64 1))), none⟩,
    ⟨some 14, .p (.build [.int .i64 0, .int .i64 0] [(0, 1, .t 8), (1, 1, .t 13)]), none⟩,
    ⟨none, .p (.storeL 3 2 none (.t 14)), none⟩])
  .ret))
def g54_rut_Frost_1 : AFn := ⟨g54_rut_Frost_1_c, [.cellL 3 2 true], 2⟩

/-- (macadam/claim.book).told -/
def g55_claim_book_told_l0 : ACode := (.seq (.reg [⟨some 23, .p (.bin .lss (.t 22) (.t 21)), none⟩])
  (.seq (.cond (.t 23) .skip (.exit 0))
  (.seq (.block 1 (.seq (.reg [⟨some 24, .p (.iaddr none 7 (.t 20) (.t 22)), none⟩,
    ⟨some 25, .p (.loadC 7 true (.t 24)), none⟩,
    ⟨some 8, .p (.allocL 8 [.int .i64 0, .int .i64 0, .int .i64 0, .int .i64 0, .int .i64 0, .int .i64 0, .int .i64 0]), none⟩,
    ⟨none, .p (.storeL 8 7 none (.t 25)), none⟩])
  (.reg [⟨some 26, .p (.lad 6 0), none⟩,
    ⟨some 27, .p (.loadL 6 1 false (some (.t 26))), none⟩,
    ⟨some 28, .p (.lad 3 0), none⟩,
    ⟨some 29, .p (.loadL 3 1 false (some (.t 28))), none⟩,
    ⟨some 30, .p (.loadL 8 7 true none), none⟩,
    ⟨some 31, .calli (.t 29) [.t 30], none⟩,
    ⟨some 32, .p (.mn [.t 27, .t 31]), none⟩,
    ⟨some 33, .p (.lad 6 1), none⟩,
    ⟨some 34, .p (.loadL 6 1 false (some (.t 33))), none⟩,
    ⟨some 35, .p (.lad 3 0), none⟩,
    ⟨some 36, .p (.loadL 3 1 false (some (.t 35))), none⟩,
    ⟨some 37, .p (.loadL 8 7 true none), none⟩,
    ⟨some 38, .calli (.t 36) [.t 37], none⟩,
    ⟨some 39, .p (.mx [.t 34, .t 38]), none⟩,
    ⟨some 40, .p (.lad 6 0), none⟩,
    ⟨none, .p (.storeL 6 1 (some (.t 40)) (.t 32)), none⟩,
    ⟨some 41, .p (.lad 6 1), none⟩,
    ⟨none, .p (.storeL 6 1 (some (.t 41)) (.t 39)), none⟩])))
  (.reg [⟨some 42, .p (.bin .add (.t 22) (.c (.int .i64 1))), none⟩,
    ⟨some 22, .p (.mov (.t 42)), none⟩]))))
def g55_claim_book_told_c : ACode := (.seq (.reg [⟨some 2, .p (.boxL 2 (.t 0)), none⟩,
    ⟨some 3, .p (.boxL 3 (.t 1)), none⟩,
    ⟨some 4, .p (.allocL 4 [.int .i64 0, .int .i64 0]), none⟩])
  (.seq (.reg [⟨some 9, .p (.lad 3 0), none⟩,
    ⟨some 10, .p (.loadL 3 1 false (some (.t 9))), none⟩,
    ⟨some 11, .p (.lad 2 8), none⟩,
    ⟨some 12, .p (.loadL 2 1 false (some (.t 11))), none⟩,
    ⟨some 13, .p (.iaddr none 7 (.t 12) (.c (.int .i64 0))), none⟩,
    ⟨some 14, .p (.loadC 7 true (.t 13)), none⟩,
    ⟨some 15, .calli (.t 10) [.t 14], none⟩,
    ⟨some 5, .p (.mov (.t 15)), none⟩])
  (.seq (.reg [⟨some 16, .p (.mov (.t 5)), none⟩,
    ⟨some 17, .p (.mov (.t 5)), none⟩,
    ⟨some 18, .p (.build [.int .i64 0, .int .i64 0] [(0, 1, .t 16), (1, 1, .t 17)]), none⟩,
    ⟨some 6, .p (.allocL 6 [.int .i64 0, .int .i64 0]), none⟩,
    ⟨none, .p (.storeL 6 2 none (.t 18)), none⟩])
  (.seq (.seq (.reg [⟨some 19, .p (.lad 2 8), none⟩,
    ⟨some 20, .p (.loadL 2 1 false (some (.t 19))), none⟩,
    ⟨some 21, .p (.len (.t 20)), none⟩,
    ⟨some 22, .p (.mov (.c (.int .i64 0))), none⟩])
  (.block 0 (.loop g55_claim_book_told_l0)))
  (.seq (.reg [⟨some 43, .p (.loadL 6 2 true none), none⟩,
    ⟨none, .p (.storeL 4 2 none (.t 43)), none⟩])
  .ret)))))
def g55_claim_book_told : AFn := ⟨g55_claim_book_told_c, [.cellL 4 2 true], 2⟩

/-- macadam/claim.First$1 -/
def g56_claim_First_1_c : ACode := (.seq (.reg [⟨some 3, .p (.boxL 3 (.t 0)), none⟩,
    ⟨some 4, .p (.mov (.c (.int .i64 0))), none⟩])
  (.seq (.reg [⟨some 5, .p (.loadC 9 true (.t 1)), none⟩,
    ⟨some 6, .p (.loadL 3 7 true none), none⟩,
    ⟨some 7, .p (.loadC 1 false (.t 2)), none⟩,
    ⟨some 8, .calli (.f 57) [.t 5, .t 6, .t 7], none⟩,
    ⟨some 4, .p (.mov (.t 8)), none⟩])
  .ret))
def g56_claim_First_1 : AFn := ⟨g56_claim_First_1_c, [.t 4], 3⟩

/-- (macadam/claim.book).late -/
def g57_claim_book_late_c : ACode := (.seq (.reg [⟨some 3, .p (.boxL 3 (.t 0)), none⟩,
    ⟨some 4, .p (.boxL 4 (.t 1)), none⟩,
    ⟨some 6, .p (.mov (.c (.int .i64 0))), none⟩])
  (.seq (.reg [⟨some 7, .p (.mov (.t 2)), none⟩,
    ⟨some 8, .p (.lad 4 1), none⟩,
    ⟨some 9, .p (.iaddr (some 3) 1 (.t 8) (.t 7)), none⟩,
    ⟨some 10, .p (.loadL 4 1 false (some (.t 9))), none⟩,
    ⟨some 11, .p (.lad 3 0), none⟩,
    ⟨some 12, .p (.faddr 0 (.t 11)), none⟩,
    ⟨some 13, .p (.loadL 3 1 false (some (.t 12))), none⟩,
    ⟨some 14, .p (.mov (.t 2)), none⟩,
    ⟨some 15, .p (.iaddr none 7 (.t 13) (.t 14)), none⟩,
    ⟨some 16, .p (.faddr 0 (.t 15)), none⟩,
    ⟨some 17, .p (.loadC 1 false (.t 16)), none⟩,
    ⟨some 18, .p (.bin .sub (.t 10) (.t 17)), none⟩,
    ⟨some 19, .p (.mx [.c (.int .i64 0), .t 18]), none⟩,
    ⟨some 6, .p (.mov (.t 19)), none⟩])
  .ret))
def g57_claim_book_late : AFn := ⟨g57_claim_book_late_c, [.t 6], 3⟩

/-- macadam/rut.first -/
def g58_rut_first_l0 : ACode := (.seq (.reg [⟨some 26, .p (.bin .lss (.t 25) (.t 24)), none⟩])
  (.seq (.cond (.t 26) .skip (.exit 0))
  (.seq (.block 1 (.seq (.reg [⟨some 27, .p (.mov (.t 25)), none⟩,
    ⟨some 10, .p (.mov (.t 27)), none⟩])
  (.seq (.reg [⟨some 28, .p (.mov (.t 2)), none⟩,
    ⟨some 29, .p (.iaddr (some 2) 1 (.g 3) (.t 28)), none⟩,
    ⟨some 30, .p (.loadC 1 false (.t 29)), none⟩,
    ⟨some 31, .p (.loadL 8 13 true none), none⟩,
    ⟨some 32, .p (.mov (.t 1)), none⟩,
    ⟨some 33, .p (.mov (.t 10)), none⟩,
    ⟨some 34, .calli (.t 30) [.t 31, .t 32, .t 33], none⟩])
  (.cond (.t 34) (.seq (.reg [⟨some 35, .p (.mov (.t 10)), none⟩,
    ⟨some 6, .p (.mov (.t 35)), none⟩,
    ⟨some 7, .p (.mov (.c (.int .i64 0))), none⟩])
  .ret) .skip))))
  (.reg [⟨some 36, .p (.bin .add (.t 25) (.c (.int .i64 1))), none⟩,
    ⟨some 25, .p (.mov (.t 36)), none⟩]))))
def g58_rut_first_c : ACode := (.seq (.reg [⟨some 3, .p (.boxL 3 (.t 0)), none⟩,
    ⟨some 6, .p (.mov (.c (.int .i64 0))), none⟩,
    ⟨some 7, .p (.mov (.c (.int .i64 0))), none⟩])
  (.seq (.reg [⟨some 12, .p (.loadL 3 11 true none), none⟩,
    ⟨some 13, .p (.loadL 3 11 true none), none⟩,
    ⟨some 14, .p (.mov (.t 1)), none⟩,
    ⟨some 15, .calli (.f 39) [.t 13, .t 14], none⟩,
    ⟨some 16, .calli (.f 48) [.t 12, .t 15], none⟩,
    ⟨some 11, .p (.mov (.t 16)), none⟩,
    ⟨some 17, .p (.extract (.t 11) 0), none⟩,
    ⟨some 18, .p (.extract (.t 11) 1), none⟩,
    ⟨some 8, .p (.allocL 8 [.sl [] .exact, .int .i64 0, .int .i64 0, .int .i64 0, .int .i64 0, .int .i64 0, .int .i64 0, .sl [] .exact, .sl [] .exact, .sl [] .exact, .int .i64 0, .nilm, .sl [] .exact]), none⟩,
    ⟨none, .p (.storeL 8 13 none (.t 17)), none⟩,
    ⟨some 9, .p (.mov (.t 18)), none⟩])
  (.seq (.seq (.reg [⟨some 19, .p (.mov (.t 9)), none⟩,
    ⟨some 20, .p (.bin .neq (.t 19) (.c (.int .i64 0))), none⟩])
  (.cond (.t 20) (.seq (.reg [⟨some 21, .p (.mov (.t 9)), none⟩,
    ⟨some 6, .p (.mov (.c (.int .i64 0))), none⟩,
    ⟨some 7, .p (.mov (.t 21)), none⟩])
  .ret) .skip))
  (.seq (.seq (.reg [⟨some 22, .p (.lad 3 7), none⟩,
    ⟨some 23, .p (.loadL 3 1 false (some (.t 22))), none⟩,
    ⟨some 24, .p (.len (.t 23)), none⟩,
    ⟨some 25, .p (.mov (.c (.int .i64 0))), none⟩])
  (.block 0 (.loop g58_rut_first_l0)))
  (.seq (.reg [⟨some 6, .p (.mov (.c (.int .i64 0))), none⟩,
    ⟨some 7, .p (.mov (.c (.int .i64 4))), none⟩])
  .ret)))))
def g58_rut_first : AFn := ⟨g58_rut_first_c, [.t 6, .t 7], 3⟩

/-- macadam/drain.asked -/
def g59_drain_asked_c : ACode := (.seq (.reg [⟨some 2, .p (.boxL 2 (.t 0)), none⟩,
    ⟨some 4, .p (.allocL 4 [.sl [] .exact, .sl [] .exact, .sl [] .exact, .nilm, .sl [] .exact]), none⟩,
    ⟨some 5, .p (.mov (.c (.int .i64 0))), none⟩])
  (.seq (.seq (.reg [⟨some 8, .p (.loadL 2 3 true none), none⟩,
    ⟨some 9, .calli (.f 78) [.t 8], none⟩,
    ⟨some 6, .p (.mov (.t 9)), none⟩])
  (.seq (.reg [⟨some 10, .p (.mov (.t 6)), none⟩,
    ⟨some 11, .p (.bin .neq (.t 10) (.c (.int .i64 0))), none⟩])
  (.cond (.t 11) (.seq (.reg [⟨some 12, .p (.build [.sl [] .exact, .sl [] .exact, .sl [] .exact, .nilm, .sl [] .exact] []), none⟩,
    ⟨some 13, .p (.mov (.t 6)), none⟩,
    ⟨none, .p (.storeL 4 5 none (.t 12)), none⟩,
    ⟨some 5, .p (.mov (.t 13)), none⟩])
  .ret) .skip)))
  (.seq (.seq (.reg [⟨some 14, .p (.mov (.t 1)), none⟩,
    ⟨some 15, .p (.un .not (.t 14)), none⟩])
  (.cond (.t 15) (.seq (.reg [⟨some 16, .p (.build [.sl [] .exact, .sl [] .exact, .sl [] .exact, .nilm, .sl [] .exact] []), none⟩,
    ⟨none, .p (.storeL 4 5 none (.t 16)), none⟩,
    ⟨some 5, .p (.mov (.c (.int .i64 51))), none⟩])
  .ret) .skip))
  (.seq (.reg [⟨some 17, .p (.loadL 2 3 true none), none⟩,
    ⟨some 18, .calli (.f 79) [.t 17, .c (.sl [] .exact)], none⟩,
    ⟨some 7, .p (.allocL 7 [.sl [] .exact, .sl [] .exact, .sl [] .exact, .nilm, .sl [] .exact]), none⟩,
    ⟨none, .p (.storeL 7 5 none (.t 18)), none⟩])
  (.seq (.seq (.reg [⟨some 19, .p (.lad 7 4), none⟩,
    ⟨some 20, .p (.loadL 7 1 false (some (.t 19))), none⟩,
    ⟨some 21, .p (.len (.t 20)), none⟩,
    ⟨some 22, .p (.bin .eql (.t 21) (.c (.int .i64 0))), none⟩])
  (.cond (.t 22) (.seq (.reg [⟨some 23, .p (.loadL 7 5 true none), none⟩,
    ⟨none, .p (.storeL 4 5 none (.t 23)), none⟩,
    ⟨some 5, .p (.mov (.c (.int .i64 52))), none⟩])
  .ret) .skip))
  (.seq (.reg [⟨some 24, .p (.loadL 7 5 true none), none⟩,
    ⟨none, .p (.storeL 4 5 none (.t 24)), none⟩,
    ⟨some 5, .p (.mov (.c (.int .i64 0))), none⟩])
  .ret))))))
def g59_drain_asked : AFn := ⟨g59_drain_asked_c, [.cellL 4 5 true, .t 5], 2⟩

/-- macadam/drain.isDay -/
def g60_drain_isDay_c : ACode := (.seq (.reg [⟨some 2, .p (.boxL 2 (.t 0)), none⟩,
    ⟨some 4, .p (.mov (.c (.bool false))), none⟩])
  (.seq (.reg [⟨some 5, .p (.mov (.t 1)), none⟩,
    ⟨some 6, .p (.lad 2 1), none⟩,
    ⟨some 7, .p (.loadL 2 1 false (some (.t 6))), none⟩,
    ⟨some 8, .p (.len (.t 7)), none⟩,
    ⟨some 9, .p (.bin .sub (.t 8) (.c (.int .i64 1))), none⟩,
    ⟨some 10, .calli (.f 80) [.t 5, .c (.int .i64 0), .t 9], none⟩,
    ⟨some 4, .p (.mov (.t 10)), none⟩])
  .ret))
def g60_drain_isDay : AFn := ⟨g60_drain_isDay_c, [.t 4], 2⟩

/-- (macadam/drain.book).span -/
def g61_drain_book_span_l0 : ACode := (.seq (.reg [⟨some 23, .p (.bin .lss (.t 22) (.t 21)), none⟩])
  (.seq (.cond (.t 23) .skip (.exit 0))
  (.seq (.block 1 (.seq (.reg [⟨some 24, .p (.iaddr none 25 (.t 20) (.t 22)), none⟩,
    ⟨some 25, .p (.loadC 25 true (.t 24)), none⟩,
    ⟨some 8, .p (.allocL 8 [.int .i64 0, .int .i64 0, .int .i64 0, .int .i64 0, .int .i64 0, .int .i64 0, .int .i64 0, .int .i64 0, .int .i64 0, .int .i64 0, .int .i64 0, .int .i64 0, .int .i64 0, .int .i64 0, .int .i64 0, .int .i64 0, .int .i64 0, .int .i64 0, .int .i64 0, .int .i64 0, .int .i64 0, .int .i64 0, .int .i64 0, .int .i64 0, .int .i64 0]), none⟩,
    ⟨none, .p (.storeL 8 25 none (.t 25)), none⟩])
  (.seq (.reg [⟨some 26, .p (.mov (.t 1)), none⟩,
    ⟨some 27, .p (.loadL 8 25 true none), none⟩,
    ⟨some 28, .calli (.t 26) [.t 27], none⟩,
    ⟨some 9, .p (.mov (.t 28)), none⟩])
  (.reg [⟨some 29, .p (.lad 6 0), none⟩,
    ⟨some 30, .p (.loadL 6 1 false (some (.t 29))), none⟩,
    ⟨some 31, .p (.mov (.t 9)), none⟩,
    ⟨some 32, .p (.bslice 1 [.int .i64 0] 1 [(0, .t 31)]), none⟩,
    ⟨some 33, .calli (.f 81) [.t 30, .t 32], none⟩,
    ⟨some 34, .p (.lad 6 1), none⟩,
    ⟨some 35, .p (.loadL 6 1 false (some (.t 34))), none⟩,
    ⟨some 36, .p (.mov (.t 9)), none⟩,
    ⟨some 37, .p (.mx [.t 35, .t 36]), none⟩,
    ⟨some 38, .p (.build [.int .i64 0, .int .i64 0] [(0, 1, .t 33), (1, 1, .t 37)]), none⟩,
    ⟨none, .p (.storeL 6 2 none (.t 38)), none⟩]))))
  (.reg [⟨some 39, .p (.bin .add (.t 22) (.c (.int .i64 1))), none⟩,
    ⟨some 22, .p (.mov (.t 39)), none⟩]))))
def g61_drain_book_span_c : ACode := (.seq (.reg [⟨some 2, .p (.boxL 2 (.t 0)), none⟩,
    ⟨some 4, .p (.allocL 4 [.int .i64 0, .int .i64 0]), none⟩])
  (.seq (.reg [⟨some 10, .p (.mov (.t 1)), none⟩,
    ⟨some 11, .p (.lad 2 4), none⟩,
    ⟨some 12, .p (.loadL 2 1 false (some (.t 11))), none⟩,
    ⟨some 13, .p (.iaddr none 25 (.t 12) (.c (.int .i64 0))), none⟩,
    ⟨some 14, .p (.loadC 25 true (.t 13)), none⟩,
    ⟨some 15, .calli (.t 10) [.t 14], none⟩,
    ⟨some 5, .p (.mov (.t 15)), none⟩])
  (.seq (.reg [⟨some 16, .p (.mov (.t 5)), none⟩,
    ⟨some 17, .p (.mov (.t 5)), none⟩,
    ⟨some 18, .p (.build [.int .i64 0, .int .i64 0] [(0, 1, .t 16), (1, 1, .t 17)]), none⟩,
    ⟨some 6, .p (.allocL 6 [.int .i64 0, .int .i64 0]), none⟩,
    ⟨none, .p (.storeL 6 2 none (.t 18)), none⟩])
  (.seq (.seq (.reg [⟨some 19, .p (.lad 2 4), none⟩,
    ⟨some 20, .p (.loadL 2 1 false (some (.t 19))), none⟩,
    ⟨some 21, .p (.len (.t 20)), none⟩,
    ⟨some 22, .p (.mov (.c (.int .i64 0))), none⟩])
  (.block 0 (.loop g61_drain_book_span_l0)))
  (.seq (.reg [⟨some 40, .p (.loadL 6 2 true none), none⟩,
    ⟨none, .p (.storeL 4 2 none (.t 40)), none⟩])
  .ret)))))
def g61_drain_book_span : AFn := ⟨g61_drain_book_span_c, [.cellL 4 2 true], 2⟩

/-- macadam/drain.Rain$1 -/
def g62_drain_Rain_1_c : ACode := (.seq (.reg [⟨some 2, .p (.boxL 2 (.t 0)), none⟩,
    ⟨some 3, .p (.mov (.c (.int .i64 0))), none⟩])
  (.seq (.reg [⟨some 4, .p (.loadC 1 false (.t 1)), none⟩,
    ⟨some 5, .p (.lad 2 1), none⟩,
    ⟨some 6, .p (.iaddr (some 4) 1 (.t 5) (.t 4)), none⟩,
    ⟨some 7, .p (.loadL 2 1 false (some (.t 6))), none⟩,
    ⟨some 3, .p (.mov (.t 7)), none⟩])
  .ret))
def g62_drain_Rain_1 : AFn := ⟨g62_drain_Rain_1_c, [.t 3], 2⟩

/-- macadam/stone.asked -/
def g63_stone_asked_c : ACode := (.seq (.reg [⟨some 2, .p (.boxL 2 (.t 0)), none⟩,
    ⟨some 4, .p (.allocL 4 [.sl [] .exact, .sl [] .exact, .int .i64 0, .int .i64 0, .int .i64 0, .int .i64 0, .nilf, .nilm]), none⟩,
    ⟨some 5, .p (.mov (.c (.int .i64 0))), none⟩])
  (.seq (.seq (.reg [⟨some 8, .p (.loadL 2 6 true none), none⟩,
    ⟨some 9, .calli (.f 82) [.t 8], none⟩,
    ⟨some 6, .p (.mov (.t 9)), none⟩])
  (.seq (.reg [⟨some 10, .p (.mov (.t 6)), none⟩,
    ⟨some 11, .p (.bin .neq (.t 10) (.c (.int .i64 0))), none⟩])
  (.cond (.t 11) (.seq (.reg [⟨some 12, .p (.build [.sl [] .exact, .sl [] .exact, .int .i64 0, .int .i64 0, .int .i64 0, .int .i64 0, .nilf, .nilm] []), none⟩,
    ⟨some 13, .p (.mov (.t 6)), none⟩,
    ⟨none, .p (.storeL 4 8 none (.t 12)), none⟩,
    ⟨some 5, .p (.mov (.t 13)), none⟩])
  .ret) .skip)))
  (.seq (.seq (.reg [⟨some 14, .p (.mov (.t 1)), none⟩,
    ⟨some 15, .p (.un .not (.t 14)), none⟩])
  (.cond (.t 15) (.seq (.reg [⟨some 16, .p (.build [.sl [] .exact, .sl [] .exact, .int .i64 0, .int .i64 0, .int .i64 0, .int .i64 0, .nilf, .nilm] []), none⟩,
    ⟨none, .p (.storeL 4 8 none (.t 16)), none⟩,
    ⟨some 5, .p (.mov (.c (.int .i64 31))), none⟩])
  .ret) .skip))
  (.seq (.reg [⟨some 17, .p (.loadL 2 6 true none), none⟩,
    ⟨some 18, .calli (.f 84) [.c (.sl [] .exact)], none⟩,
    ⟨some 19, .calli (.f 83) [.t 17, .t 18], none⟩,
    ⟨some 7, .p (.allocL 7 [.sl [] .exact, .sl [] .exact, .int .i64 0, .int .i64 0, .int .i64 0, .int .i64 0, .nilf, .nilm]), none⟩,
    ⟨none, .p (.storeL 7 8 none (.t 19)), none⟩])
  (.seq (.seq (.reg [⟨some 20, .p (.loadL 7 8 true none), none⟩,
    ⟨some 21, .calli (.f 85) [.t 20], none⟩,
    ⟨some 22, .p (.un .not (.t 21)), none⟩])
  (.cond (.t 22) (.seq (.reg [⟨some 23, .p (.loadL 7 8 true none), none⟩,
    ⟨none, .p (.storeL 4 8 none (.t 23)), none⟩,
    ⟨some 5, .p (.mov (.c (.int .i64 32))), none⟩])
  .ret) .skip))
  (.seq (.reg [⟨some 24, .p (.loadL 7 8 true none), none⟩,
    ⟨none, .p (.storeL 4 8 none (.t 24)), none⟩,
    ⟨some 5, .p (.mov (.c (.int .i64 0))), none⟩])
  .ret))))))
def g63_stone_asked : AFn := ⟨g63_stone_asked_c, [.cellL 4 8 true, .t 5], 2⟩

/-- macadam/stone.isMove -/
def g64_stone_isMove_c : ACode := (.seq (.reg [⟨some 2, .p (.boxL 2 (.t 0)), none⟩,
    ⟨some 4, .p (.mov (.c (.bool false))), none⟩])
  (.seq (.reg [⟨some 5, .p (.mov (.t 1)), none⟩,
    ⟨some 6, .p (.lad 2 1), none⟩,
    ⟨some 7, .p (.loadL 2 1 false (some (.t 6))), none⟩,
    ⟨some 8, .p (.len (.t 7)), none⟩,
    ⟨some 9, .p (.bin .sub (.t 8) (.c (.int .i64 1))), none⟩,
    ⟨some 10, .calli (.f 86) [.t 5, .c (.int .i64 0), .t 9], none⟩,
    ⟨some 4, .p (.mov (.t 10)), none⟩])
  .ret))
def g64_stone_isMove : AFn := ⟨g64_stone_isMove_c, [.t 4], 2⟩

/-- (macadam/stone.book).told -/
def g65_stone_book_told_b0 : ACode := (.block 1 (.seq (.reg [⟨some 12, .p (.loadC 1 false (.t 3)), none⟩,
    ⟨some 13, .p (.loadL 7 13 true none), none⟩,
    ⟨some 14, .calli (.t 12) [.t 13], none⟩,
    ⟨some 8, .p (.allocL 8 [.int .i64 0, .int .i64 0]), none⟩,
    ⟨none, .p (.storeL 8 2 none (.t 14)), none⟩])
  (.seq (.seq (.reg [⟨some 15, .h (.load 1 false (.t 6)), none⟩,
    ⟨some 16, .p (.un .not (.t 15)), none⟩])
  (.cond (.t 16) (.reg [⟨some 17, .p (.loadL 8 2 true none), none⟩,
    ⟨none, .h (.store 2 (.t 5) (.t 17)), none⟩,
    ⟨none, .h (.store 1 (.t 6) (.c (.bool true))), none⟩]) .skip))
  (.reg [⟨some 18, .p (.faddr 0 (.t 5)), none⟩,
    ⟨some 19, .h (.load 1 false (.t 18)), none⟩,
    ⟨some 20, .p (.lad 8 0), none⟩,
    ⟨some 21, .p (.loadL 8 1 false (some (.t 20))), none⟩,
    ⟨some 22, .p (.mn [.t 19, .t 21]), none⟩,
    ⟨some 23, .p (.faddr 1 (.t 5)), none⟩,
    ⟨some 24, .h (.load 1 false (.t 23)), none⟩,
    ⟨some 25, .p (.lad 8 1), none⟩,
    ⟨some 26, .p (.loadL 8 1 false (some (.t 25))), none⟩,
    ⟨some 27, .p (.mx [.t 24, .t 26]), none⟩,
    ⟨some 28, .p (.build [.int .i64 0, .int .i64 0] [(0, 1, .t 22), (1, 1, .t 27)]), none⟩,
    ⟨none, .h (.store 2 (.t 5) (.t 28)), none⟩]))))
def g65_stone_book_told_c : ACode := (.seq (.reg [⟨some 2, .p (.boxL 2 (.t 0)), none⟩,
    ⟨some 3, .p (.boxL 3 (.t 1)), none⟩,
    ⟨some 4, .p (.allocL 4 [.int .i64 0, .int .i64 0]), none⟩])
  (.seq (.reg [⟨some 5, .h (.alloc [.int .i64 0, .int .i64 0]), none⟩])
  (.seq (.reg [⟨some 6, .h (.alloc [.bool false]), none⟩,
    ⟨none, .h (.store 1 (.t 6) (.c (.bool false))), none⟩])
  (.seq (.seq (.reg [⟨some 9, .p (.loadL 2 8 true none), none⟩,
    ⟨some 10, .calli (.f 87) [.t 9], none⟩])
  (.block 0 (.frz [3] (.rangeF (.t 10) [11] (.reg [⟨some 7, .p (.allocL 7 [.int .i64 0, .int .i64 0, .int .i64 0, .int .i64 0, .int .i64 0, .int .i64 0, .int .i64 0, .int .i64 0, .int .i64 0, .int .i64 0, .int .i64 0, .int .i64 0, .int .i64 0]), none⟩,
    ⟨none, .p (.storeL 7 13 none (.t 11)), none⟩]) g65_stone_book_told_b0))))
  (.seq (.reg [⟨some 29, .h (.load 2 true (.t 5)), none⟩,
    ⟨none, .p (.storeL 4 2 none (.t 29)), none⟩])
  .ret)))))
def g65_stone_book_told : AFn := ⟨g65_stone_book_told_c, [.cellL 4 2 true], 2⟩

/-- macadam/stone.Yards$1 -/
def g66_stone_Yards_1_c : ACode := (.seq (.reg [⟨some 2, .p (.boxL 2 (.t 0)), none⟩,
    ⟨some 3, .p (.allocL 3 [.int .i64 0, .int .i64 0]), none⟩])
  (.seq (.reg [⟨some 4, .p (.loadC 1 false (.t 1)), none⟩,
    ⟨some 5, .p (.lad 2 0), none⟩,
    ⟨some 6, .p (.iaddr (some 5) 1 (.t 5) (.t 4)), none⟩,
    ⟨some 7, .p (.loadL 2 1 false (some (.t 6))), none⟩,
    ⟨some 8, .p (.loadC 1 false (.t 1)), none⟩,
    ⟨some 9, .p (.lad 2 0), none⟩,
    ⟨some 10, .p (.iaddr (some 5) 1 (.t 9) (.t 8)), none⟩,
    ⟨some 11, .p (.loadL 2 1 false (some (.t 10))), none⟩,
    ⟨some 12, .p (.build [.int .i64 0, .int .i64 0] [(0, 1, .t 7), (1, 1, .t 11)]), none⟩,
    ⟨none, .p (.storeL 3 2 none (.t 12)), none⟩])
  .ret))
def g66_stone_Yards_1 : AFn := ⟨g66_stone_Yards_1_c, [.cellL 3 2 true], 2⟩

/-- macadam/macadamref00.Common -/
def g67_macadamref00_Common_c : ACode := (.seq (.reg [⟨some 2, .p (.boxL 2 (.t 0)), none⟩,
    ⟨some 3, .p (.boxL 3 (.t 1)), none⟩,
    ⟨some 4, .p (.allocL 4 [.int .i64 0, .int .i64 0]), none⟩])
  (.seq (.reg [⟨some 5, .p (.lad 2 0), none⟩,
    ⟨some 6, .p (.loadL 2 1 false (some (.t 5))), none⟩,
    ⟨some 7, .p (.lad 3 0), none⟩,
    ⟨some 8, .p (.loadL 3 1 false (some (.t 7))), none⟩,
    ⟨some 9, .p (.mx [.t 6, .t 8]), none⟩,
    ⟨some 10, .p (.lad 2 1), none⟩,
    ⟨some 11, .p (.loadL 2 1 false (some (.t 10))), none⟩,
    ⟨some 12, .p (.lad 3 1), none⟩,
    ⟨some 13, .p (.loadL 3 1 false (some (.t 12))), none⟩,
    ⟨some 14, .p (.mn [.t 11, .t 13]), none⟩,
    ⟨some 15, .calli (.f 36) [.t 9, .t 14], none⟩,
    ⟨none, .p (.storeL 4 2 none (.t 15)), none⟩])
  .ret))
def g67_macadamref00_Common : AFn := ⟨g67_macadamref00_Common_c, [.cellL 4 2 true], 2⟩

/-- (macadam/claim.book).blame -/
def g68_claim_book_blame_l0 : ACode := (.seq (.reg [⟨some 14, .p (.bin .lss (.t 13) (.t 12)), none⟩])
  (.seq (.cond (.t 14) .skip (.exit 0))
  (.seq (.block 1 (.seq (.reg [⟨some 15, .p (.iaddr none 7 (.t 11) (.t 13)), none⟩,
    ⟨some 16, .p (.loadC 7 true (.t 15)), none⟩,
    ⟨some 5, .p (.allocL 5 [.int .i64 0, .int .i64 0, .int .i64 0, .int .i64 0, .int .i64 0, .int .i64 0, .int .i64 0]), none⟩,
    ⟨none, .p (.storeL 5 7 none (.t 16)), none⟩])
  (.seq (.frz [5] (.reg [⟨some 17, .p (.loadL 1 9 true none), none⟩,
    ⟨some 18, .p (.loadL 5 7 true none), none⟩,
    ⟨some 19, .p (.loadL 1 9 true none), none⟩,
    ⟨some 20, .calli (.f 88) [.t 19], none⟩,
    ⟨some 21, .calli (.f 57) [.t 17, .t 18, .t 20], none⟩,
    ⟨some 22, .p (.bin .gtr (.t 21) (.c (.int .i64 0))), none⟩,
    ⟨some 23, .p (.mov (.t 22)), none⟩,
    ⟨some 24, .p (.loadL 1 9 true none), (some (23, true))⟩,
    ⟨some 25, .calli (.f 88) [.t 24], (some (23, true))⟩,
    ⟨some 26, .p (.lad 5 1), (some (23, true))⟩,
    ⟨some 27, .p (.iaddr (some 3) 1 (.t 26) (.t 25)), (some (23, true))⟩,
    ⟨some 28, .p (.loadL 5 1 false (some (.t 27))), (some (23, true))⟩,
    ⟨some 29, .p (.lad 5 4), (some (23, true))⟩,
    ⟨some 30, .p (.slicL 5 3 1 (.t 29)), (some (23, true))⟩,
    ⟨some 31, .calli (.f 89) [.t 30], (some (23, true))⟩,
    ⟨some 32, .p (.bin .sub (.t 28) (.t 31)), (some (23, true))⟩,
    ⟨some 33, .p (.lad 1 0), (some (23, true))⟩,
    ⟨some 34, .p (.faddr 0 (.t 33)), (some (23, true))⟩,
    ⟨some 35, .p (.loadL 1 1 false (some (.t 34))), (some (23, true))⟩,
    ⟨some 36, .p (.loadL 1 9 true none), (some (23, true))⟩,
    ⟨some 37, .calli (.f 88) [.t 36], (some (23, true))⟩,
    ⟨some 38, .p (.iaddr none 7 (.t 35) (.t 37)), (some (23, true))⟩,
    ⟨some 39, .p (.faddr 0 (.t 38)), (some (23, true))⟩,
    ⟨some 40, .p (.loadC 1 false (.t 39)), (some (23, true))⟩,
    ⟨some 41, .p (.bin .leq (.t 32) (.t 40)), (some (23, true))⟩,
    ⟨some 42, .p (.pick (.t 23) (.t 41) (.c (.bool false))), none⟩]))
  (.cond (.t 42) (.reg [⟨some 43, .p (.lad 3 0), none⟩,
    ⟨some 44, .p (.loadL 3 1 false (some (.t 43))), none⟩,
    ⟨some 45, .p (.bin .add (.t 44) (.c (.int .i64 1))), none⟩,
    ⟨some 46, .p (.lad 3 0), none⟩,
    ⟨none, .p (.storeL 3 1 (some (.t 46)) (.t 45)), none⟩]) .skip))))
  (.reg [⟨some 47, .p (.bin .add (.t 13) (.c (.int .i64 1))), none⟩,
    ⟨some 13, .p (.mov (.t 47)), none⟩]))))
def g68_claim_book_blame_c : ACode := (.seq (.reg [⟨some 1, .p (.boxL 1 (.t 0)), none⟩,
    ⟨some 2, .p (.allocL 2 [.int .i64 0, .int .i64 0]), none⟩])
  (.seq (.reg [⟨some 6, .p (.lad 1 8), none⟩,
    ⟨some 7, .p (.loadL 1 1 false (some (.t 6))), none⟩,
    ⟨some 8, .p (.len (.t 7)), none⟩,
    ⟨some 9, .p (.build [.int .i64 0, .int .i64 0] [(1, 1, .t 8)]), none⟩,
    ⟨some 3, .p (.allocL 3 [.int .i64 0, .int .i64 0]), none⟩,
    ⟨none, .p (.storeL 3 2 none (.t 9)), none⟩])
  (.seq (.seq (.reg [⟨some 10, .p (.lad 1 8), none⟩,
    ⟨some 11, .p (.loadL 1 1 false (some (.t 10))), none⟩,
    ⟨some 12, .p (.len (.t 11)), none⟩,
    ⟨some 13, .p (.mov (.c (.int .i64 0))), none⟩])
  (.block 0 (.loop g68_claim_book_blame_l0)))
  (.seq (.reg [⟨some 48, .p (.loadL 3 2 true none), none⟩,
    ⟨none, .p (.storeL 2 2 none (.t 48)), none⟩])
  .ret))))
def g68_claim_book_blame : AFn := ⟨g68_claim_book_blame_c, [.cellL 2 2 true], 1⟩

/-- (macadam/claim.book).owes -/
def g69_claim_book_owes_c : ACode := (.seq (.reg [⟨some 2, .p (.boxL 2 (.t 0)), none⟩,
    ⟨some 3, .p (.boxL 3 (.t 1)), none⟩,
    ⟨some 4, .p (.mov (.c (.int .i64 0))), none⟩])
  (.seq (.frz [3] (.reg [⟨some 5, .p (.lad 2 0), none⟩,
    ⟨some 6, .p (.faddr 6 (.t 5)), none⟩,
    ⟨some 7, .p (.loadL 2 1 false (some (.t 6))), none⟩,
    ⟨some 8, .p (.loadL 2 9 true none), none⟩,
    ⟨some 9, .p (.loadL 3 7 true none), none⟩,
    ⟨some 10, .p (.loadL 2 9 true none), none⟩,
    ⟨some 11, .calli (.f 88) [.t 10], none⟩,
    ⟨some 12, .calli (.f 57) [.t 8, .t 9, .t 11], none⟩,
    ⟨some 13, .p (.lad 3 4), none⟩,
    ⟨some 14, .p (.slicL 3 3 1 (.t 13)), none⟩,
    ⟨some 15, .calli (.f 89) [.t 14], none⟩,
    ⟨some 16, .p (.mn [.t 12, .t 15]), none⟩,
    ⟨some 17, .p (.bin .mul (.t 7) (.t 16)), none⟩,
    ⟨some 4, .p (.mov (.t 17)), none⟩]))
  .ret))
def g69_claim_book_owes : AFn := ⟨g69_claim_book_owes_c, [.t 4], 2⟩

/-- slices.Contains[[]int,int] -/
def g70_slices_Contains_c : ACode := (.seq (.reg [⟨some 4, .p (.mov (.c (.bool false))), none⟩])
  (.seq (.reg [⟨some 5, .p (.mov (.t 0)), none⟩,
    ⟨some 6, .p (.mov (.t 1)), none⟩,
    ⟨some 7, .calli (.f 90) [.t 5, .t 6], none⟩,
    ⟨some 8, .p (.bin .geq (.t 7) (.c (.int .i64 0))), none⟩,
    ⟨some 4, .p (.mov (.t 8)), none⟩])
  .ret))
def g70_slices_Contains : AFn := ⟨g70_slices_Contains_c, [.t 4], 2⟩

/-- (macadam/claim.book).whole -/
def g71_claim_book_whole_c : ACode := (.seq (.reg [⟨some 1, .p (.boxL 1 (.t 0)), none⟩,
    ⟨some 2, .p (.mov (.c .nilf)), none⟩])
  (.seq (.frz [1] (.reg [⟨some 3, .p (.mkfn 91 [] [.t 1]), none⟩,
    ⟨some 2, .p (.mov (.t 3)), none⟩]))
  .ret))
def g71_claim_book_whole : AFn := ⟨g71_claim_book_whole_c, [.t 2], 1⟩

/-- (macadam/rut.book).right -/
def g72_rut_book_right_l0 : ACode := (.seq (.reg [⟨some 28, .p (.bin .lss (.t 27) (.t 26)), none⟩])
  (.seq (.cond (.t 28) .skip (.exit 0))
  (.seq (.block 1 (.seq (.reg [⟨some 29, .p (.mov (.t 27)), none⟩,
    ⟨some 30, .p (.iaddr none 4 (.t 25) (.t 27)), none⟩,
    ⟨some 31, .p (.loadC 4 true (.t 30)), none⟩,
    ⟨some 14, .p (.allocL 14 [.int .i64 0, .int .i64 0, .int .i64 0, .int .i64 0]), none⟩,
    ⟨some 13, .p (.mov (.t 29)), none⟩,
    ⟨none, .p (.storeL 14 4 none (.t 31)), none⟩])
  (.seq (.seq (.reg [⟨some 32, .p (.lad 14 0), none⟩,
    ⟨some 33, .p (.loadL 14 1 false (some (.t 32))), none⟩,
    ⟨some 34, .p (.mov (.t 3)), none⟩,
    ⟨some 35, .p (.bin .neq (.t 33) (.t 34)), none⟩,
    ⟨some 36, .p (.mov (.t 35)), none⟩,
    ⟨some 37, .p (.mov (.t 4)), (some (36, false))⟩,
    ⟨some 38, .p (.mov (.t 13)), (some (36, false))⟩,
    ⟨some 39, .calli (.f 70) [.t 37, .t 38], (some (36, false))⟩,
    ⟨some 40, .p (.pick (.t 36) (.c (.bool true)) (.t 39)), none⟩])
  (.cond (.t 40) (.exit 1) .skip))
  (.seq (.reg [⟨some 42, .p (.loadL 5 13 true none), none⟩,
    ⟨some 43, .p (.loadL 6 3 true none), none⟩,
    ⟨some 44, .p (.mov (.t 2)), none⟩,
    ⟨some 45, .p (.mov (.t 3)), none⟩,
    ⟨some 46, .p (.lad 14 1), none⟩,
    ⟨some 47, .p (.loadL 14 1 false (some (.t 46))), none⟩,
    ⟨some 48, .call (.f 1077) [.t 42, .t 43, .t 44, .t 45, .t 47], none⟩,
    ⟨some 41, .p (.mov (.t 48)), none⟩,
    ⟨some 49, .p (.extract (.t 41) 0), none⟩,
    ⟨some 50, .p (.extract (.t 41) 1), none⟩,
    ⟨some 15, .p (.mov (.t 49)), none⟩,
    ⟨some 16, .p (.mov (.t 50)), none⟩])
  (.seq (.seq (.reg [⟨some 51, .p (.mov (.t 16)), none⟩])
  (.cond (.t 51) (.seq (.seq (.reg [⟨some 52, .p (.lad 14 2), none⟩,
    ⟨some 53, .p (.loadL 14 1 false (some (.t 52))), none⟩,
    ⟨some 54, .p (.mov (.t 15)), none⟩,
    ⟨some 55, .p (.bin .sub (.t 53) (.t 54)), none⟩,
    ⟨some 56, .p (.lad 14 3), none⟩,
    ⟨some 57, .p (.loadL 14 1 false (some (.t 56))), none⟩,
    ⟨some 58, .p (.un .neg (.t 57)), none⟩,
    ⟨some 59, .p (.lad 14 3), none⟩,
    ⟨some 60, .p (.loadL 14 1 false (some (.t 59))), none⟩,
    ⟨some 61, .calli (.f 37) [.t 55, .t 58, .t 60], none⟩,
    ⟨some 62, .p (.un .not (.t 61)), none⟩])
  (.cond (.t 62) (.seq (.reg [⟨some 63, .p (.loadL 12 2 true none), none⟩,
    ⟨none, .p (.storeL 10 2 none (.t 63)), none⟩,
    ⟨some 11, .p (.mov (.c (.bool false))), none⟩])
  .ret) .skip))
  (.exit 1)) .skip))
  (.reg [⟨some 64, .p (.lad 12 0), none⟩,
    ⟨some 65, .p (.loadL 12 1 false (some (.t 64))), none⟩,
    ⟨some 66, .p (.lad 14 2), none⟩,
    ⟨some 67, .p (.loadL 14 1 false (some (.t 66))), none⟩,
    ⟨some 68, .p (.lad 14 3), none⟩,
    ⟨some 69, .p (.loadL 14 1 false (some (.t 68))), none⟩,
    ⟨some 70, .p (.bin .sub (.t 67) (.t 69)), none⟩,
    ⟨some 71, .p (.mov (.t 15)), none⟩,
    ⟨some 72, .p (.bin .sub (.t 70) (.t 71)), none⟩,
    ⟨some 73, .p (.mx [.t 65, .t 72]), none⟩,
    ⟨some 74, .p (.lad 12 1), none⟩,
    ⟨some 75, .p (.loadL 12 1 false (some (.t 74))), none⟩,
    ⟨some 76, .p (.lad 14 2), none⟩,
    ⟨some 77, .p (.loadL 14 1 false (some (.t 76))), none⟩,
    ⟨some 78, .p (.lad 14 3), none⟩,
    ⟨some 79, .p (.loadL 14 1 false (some (.t 78))), none⟩,
    ⟨some 80, .p (.bin .add (.t 77) (.t 79)), none⟩,
    ⟨some 81, .p (.mov (.t 15)), none⟩,
    ⟨some 82, .p (.bin .sub (.t 80) (.t 81)), none⟩,
    ⟨some 83, .p (.mn [.t 75, .t 82]), none⟩,
    ⟨some 84, .p (.build [.int .i64 0, .int .i64 0] [(0, 1, .t 73), (1, 1, .t 83)]), none⟩,
    ⟨none, .p (.storeL 12 2 none (.t 84)), none⟩]))))))
  (.reg [⟨some 85, .p (.bin .add (.t 27) (.c (.int .i64 1))), none⟩,
    ⟨some 27, .p (.mov (.t 85)), none⟩]))))
def g72_rut_book_right_c : ACode := (.seq (.reg [⟨some 5, .p (.boxL 5 (.t 0)), none⟩,
    ⟨some 6, .p (.boxL 6 (.t 1)), none⟩,
    ⟨some 10, .p (.allocL 10 [.int .i64 0, .int .i64 0]), none⟩,
    ⟨some 11, .p (.mov (.c (.bool false))), none⟩])
  (.seq (.reg [⟨some 17, .p (.lad 5 0), none⟩,
    ⟨some 18, .p (.faddr 0 (.t 17)), none⟩,
    ⟨some 19, .p (.loadL 5 1 false (some (.t 18))), none⟩,
    ⟨some 20, .p (.mov (.t 3)), none⟩,
    ⟨some 21, .p (.iaddr none 2 (.t 19) (.t 20)), none⟩,
    ⟨some 22, .p (.loadC 2 true (.t 21)), none⟩,
    ⟨some 12, .p (.allocL 12 [.int .i64 0, .int .i64 0]), none⟩,
    ⟨none, .p (.storeL 12 2 none (.t 22)), none⟩])
  (.seq (.seq (.reg [⟨some 23, .p (.lad 5 0), none⟩,
    ⟨some 24, .p (.faddr 9 (.t 23)), none⟩,
    ⟨some 25, .p (.loadL 5 1 false (some (.t 24))), none⟩,
    ⟨some 26, .p (.len (.t 25)), none⟩,
    ⟨some 27, .p (.mov (.c (.int .i64 0))), none⟩])
  (.block 0 (.loop g72_rut_book_right_l0)))
  (.seq (.reg [⟨some 86, .p (.loadL 12 2 true none), none⟩,
    ⟨some 87, .calli (.f 95) [], none⟩,
    ⟨some 88, .p (.field 0 1 false (.t 87)), none⟩,
    ⟨some 89, .p (.loadL 12 2 true none), none⟩,
    ⟨some 90, .calli (.t 88) [.t 89], none⟩,
    ⟨some 91, .calli (.f 96) [], none⟩,
    ⟨some 92, .p (.field 0 1 false (.t 91)), none⟩,
    ⟨some 93, .p (.loadL 12 2 true none), none⟩,
    ⟨some 94, .calli (.t 92) [.t 93], none⟩,
    ⟨some 95, .p (.bin .leq (.t 90) (.t 94)), none⟩,
    ⟨none, .p (.storeL 10 2 none (.t 86)), none⟩,
    ⟨some 11, .p (.mov (.t 95)), none⟩])
  .ret))))
def g72_rut_book_right : AFn := ⟨g72_rut_book_right_c, [.cellL 10 2 true, .t 11], 5⟩

/-- (macadam/rut.book).costs -/
def g73_rut_book_costs_c : ACode := (.seq (.reg [⟨some 1, .p (.boxL 1 (.t 0)), none⟩,
    ⟨some 2, .p (.mov (.c .nilf)), none⟩])
  (.seq (.frz [1] (.reg [⟨some 3, .p (.mkfn 97 [] [.t 1]), none⟩,
    ⟨some 2, .p (.mov (.t 3)), none⟩]))
  .ret))
def g73_rut_book_costs : AFn := ⟨g73_rut_book_costs_c, [.t 2], 1⟩

/-- (macadam/rut.book).nights -/
def g74_rut_book_nights_c : ACode := (.seq (.reg [⟨some 1, .p (.boxL 1 (.t 0)), none⟩,
    ⟨some 2, .p (.mov (.c .nilf)), none⟩])
  (.seq (.frz [1] (.reg [⟨some 3, .p (.mkfn 100 [] [.t 1]), none⟩,
    ⟨some 2, .p (.mov (.t 3)), none⟩]))
  .ret))
def g74_rut_book_nights : AFn := ⟨g74_rut_book_nights_c, [.t 2], 1⟩

/-- macadam/claim.stage$1 -/
def g75_claim_stage_1_c : ACode := (.seq (.reg [⟨some 3, .p (.boxL 3 (.t 0)), none⟩,
    ⟨some 4, .p (.mov (.c (.int .i64 0))), none⟩])
  (.seq (.reg [⟨some 5, .p (.loadC 1 false (.t 1)), none⟩,
    ⟨some 6, .p (.loadC 9 true (.t 2)), none⟩,
    ⟨some 7, .p (.loadL 3 7 true none), none⟩,
    ⟨some 8, .calli (.t 5) [.t 6, .t 7], none⟩,
    ⟨some 4, .p (.mov (.t 8)), none⟩])
  .ret))
def g75_claim_stage_1 : AFn := ⟨g75_claim_stage_1_c, [.t 4], 3⟩

/-- (macadam/rut.book).deep$1 -/
def g76_rut_book_deep_1_c : ACode := (.seq (.reg [⟨some 4, .p (.boxL 4 (.t 0)), none⟩,
    ⟨some 5, .p (.allocL 5 [.int .i64 0, .int .i64 0]), none⟩])
  (.seq (.reg [⟨some 9, .p (.loadC 13 true (.t 1)), none⟩,
    ⟨some 10, .p (.lad 4 0), none⟩,
    ⟨some 11, .p (.loadL 4 3 true (some (.t 10))), none⟩,
    ⟨some 12, .p (.lad 4 3), none⟩,
    ⟨some 13, .p (.loadL 4 1 false (some (.t 12))), none⟩,
    ⟨some 14, .p (.loadC 1 false (.t 2)), none⟩,
    ⟨some 15, .p (.loadC 1 false (.t 3)), none⟩,
    ⟨some 16, .calli (.f 77) [.t 9, .t 11, .t 13, .t 14, .t 15], none⟩,
    ⟨some 8, .p (.mov (.t 16)), none⟩,
    ⟨some 17, .p (.extract (.t 8) 0), none⟩,
    ⟨some 18, .p (.extract (.t 8) 1), none⟩,
    ⟨some 6, .p (.mov (.t 17)), none⟩,
    ⟨some 7, .p (.mov (.t 18)), none⟩])
  (.seq (.seq (.reg [⟨some 19, .p (.mov (.t 7)), none⟩])
  (.cond (.t 19) (.seq (.reg [⟨some 20, .p (.mov (.t 6)), none⟩,
    ⟨some 21, .p (.mov (.t 6)), none⟩,
    ⟨some 22, .p (.build [.int .i64 0, .int .i64 0] [(0, 1, .t 20), (1, 1, .t 21)]), none⟩,
    ⟨none, .p (.storeL 5 2 none (.t 22)), none⟩])
  .ret) .skip))
  (.seq (.reg [⟨some 23, .p (.loadC 1 false (.t 2)), none⟩,
    ⟨some 24, .p (.lad 4 4), none⟩,
    ⟨some 25, .p (.iaddr (some 4) 2 (.t 24) (.t 23)), none⟩,
    ⟨some 26, .p (.faddr 0 (.t 25)), none⟩,
    ⟨some 27, .p (.loadL 4 1 false (some (.t 26))), none⟩,
    ⟨some 28, .p (.mov (.t 6)), none⟩,
    ⟨some 29, .p (.bin .add (.t 27) (.t 28)), none⟩,
    ⟨some 30, .p (.loadC 1 false (.t 2)), none⟩,
    ⟨some 31, .p (.lad 4 4), none⟩,
    ⟨some 32, .p (.iaddr (some 4) 2 (.t 31) (.t 30)), none⟩,
    ⟨some 33, .p (.faddr 1 (.t 32)), none⟩,
    ⟨some 34, .p (.loadL 4 1 false (some (.t 33))), none⟩,
    ⟨some 35, .p (.mov (.t 6)), none⟩,
    ⟨some 36, .p (.bin .add (.t 34) (.t 35)), none⟩,
    ⟨some 37, .p (.build [.int .i64 0, .int .i64 0] [(0, 1, .t 29), (1, 1, .t 36)]), none⟩,
    ⟨none, .p (.storeL 5 2 none (.t 37)), none⟩])
  .ret))))
def g76_rut_book_deep_1 : AFn := ⟨g76_rut_book_deep_1_c, [.cellL 5 2 true], 4⟩

/-- (macadam/rut.book).deeper -/
def g77_rut_book_deeper_l0 : ACode := (.seq (.reg [⟨some 16, .p (.bin .lss (.t 15) (.t 14)), none⟩])
  (.seq (.cond (.t 16) .skip (.exit 0))
  (.seq (.block 1 (.seq (.reg [⟨some 17, .p (.mov (.t 15)), none⟩,
    ⟨some 12, .p (.mov (.t 17)), none⟩])
  (.seq (.seq (.reg [⟨some 18, .p (.lad 5 11), none⟩,
    ⟨some 19, .p (.loadL 5 1 false (some (.t 18))), none⟩,
    ⟨some 20, .p (.mov (.t 3)), none⟩,
    ⟨some 21, .p (.mov (.t 12)), none⟩,
    ⟨some 22, .p (.build [.int .i64 0, .int .i64 0] [(0, 1, .t 20), (1, 1, .t 21)]), none⟩,
    ⟨some 23, .p (.lookupV 2 (.bool false) (.t 19) (.t 22)), none⟩])
  (.cond (.t 23) (.reg [⟨some 10, .p (.mov (.c (.int .i64 0))), none⟩,
    ⟨some 11, .p (.mov (.c (.bool true))), none⟩]) .skip))
  (.reg [⟨some 24, .p (.mov (.t 10)), none⟩,
    ⟨some 25, .p (.loadL 5 13 true none), none⟩,
    ⟨some 26, .p (.mov (.t 12)), none⟩,
    ⟨some 27, .p (.loadL 6 3 true none), none⟩,
    ⟨some 28, .p (.mov (.t 2)), none⟩,
    ⟨some 29, .calli (.f 102) [.t 25, .t 26, .t 27, .t 28], none⟩,
    ⟨some 30, .p (.bin .add (.t 24) (.t 29)), none⟩,
    ⟨some 10, .p (.mov (.t 30)), none⟩]))))
  (.reg [⟨some 31, .p (.bin .add (.t 15) (.c (.int .i64 1))), none⟩,
    ⟨some 15, .p (.mov (.t 31)), none⟩]))))
def g77_rut_book_deeper_c : ACode := (.seq (.reg [⟨some 5, .p (.boxL 5 (.t 0)), none⟩,
    ⟨some 6, .p (.boxL 6 (.t 1)), none⟩,
    ⟨some 10, .p (.mov (.c (.int .i64 0))), none⟩,
    ⟨some 11, .p (.mov (.c (.bool false))), none⟩])
  (.seq (.seq (.reg [⟨some 13, .p (.mov (.t 4)), none⟩,
    ⟨some 14, .p (.bin .add (.t 13) (.c (.int .i64 1))), none⟩,
    ⟨some 15, .p (.mov (.c (.int .i64 0))), none⟩])
  (.block 0 (.loop g77_rut_book_deeper_l0)))
  (.seq (.reg [⟨some 32, .p (.mov (.t 10)), none⟩,
    ⟨some 33, .p (.mov (.t 11)), none⟩,
    ⟨some 10, .p (.mov (.t 32)), none⟩,
    ⟨some 11, .p (.mov (.t 33)), none⟩])
  .ret)))
def g77_rut_book_deeper : AFn := ⟨g77_rut_book_deeper_c, [.t 10, .t 11], 5⟩

/-- macadam/drain.Check -/
def g78_drain_Check_l0 : ACode := (.seq (.reg [⟨some 30, .p (.bin .lss (.t 29) (.t 28)), none⟩])
  (.seq (.cond (.t 30) .skip (.exit 0))
  (.seq (.block 1 (.seq (.reg [⟨some 31, .p (.mov (.t 29)), none⟩,
    ⟨some 32, .p (.iaddr none 4 (.t 27) (.t 29)), none⟩,
    ⟨some 33, .p (.loadC 4 true (.t 32)), none⟩,
    ⟨some 5, .p (.allocL 5 [.int .i64 0, .int .i64 0, .int .i64 0, .int .i64 0]), none⟩,
    ⟨some 4, .p (.mov (.t 31)), none⟩,
    ⟨none, .p (.storeL 5 4 none (.t 33)), none⟩])
  (.seq (.reg [⟨some 34, .p (.mov (.t 3)), none⟩,
    ⟨some 35, .p (.mov (.t 34)), none⟩,
    ⟨some 36, .p (.lad 5 0), (some (35, true))⟩,
    ⟨some 37, .p (.loadL 5 1 false (some (.t 36))), (some (35, true))⟩,
    ⟨some 38, .calli (.f 80) [.t 37, .c (.int .i64 0), .c (.int .i64 20)], (some (35, true))⟩,
    ⟨some 39, .p (.pick (.t 35) (.t 38) (.c (.bool false))), none⟩,
    ⟨some 40, .p (.mov (.t 39)), none⟩,
    ⟨some 41, .p (.lad 5 1), (some (40, true))⟩,
    ⟨some 42, .p (.loadL 5 1 false (some (.t 41))), (some (40, true))⟩,
    ⟨some 43, .calli (.f 80) [.t 42, .c (.int .i64 0), .c (.int .i64 9)], (some (40, true))⟩,
    ⟨some 44, .p (.pick (.t 40) (.t 43) (.c (.bool false))), none⟩,
    ⟨some 45, .p (.mov (.t 44)), none⟩,
    ⟨some 46, .p (.lad 5 2), (some (45, true))⟩,
    ⟨some 47, .p (.loadL 5 1 false (some (.t 46))), (some (45, true))⟩,
    ⟨some 48, .calli (.f 80) [.t 47, .c (.int .i64 0), .c (.int .i64 2)], (some (45, true))⟩,
    ⟨some 49, .p (.pick (.t 45) (.t 48) (.c (.bool false))), none⟩,
    ⟨some 3, .p (.mov (.t 49)), none⟩])
  (.reg [⟨some 50, .p (.mov (.t 3)), none⟩,
    ⟨some 51, .p (.mov (.t 50)), none⟩,
    ⟨some 52, .p (.lad 5 3), (some (51, true))⟩,
    ⟨some 53, .p (.loadL 5 1 false (some (.t 52))), (some (51, true))⟩,
    ⟨some 54, .p (.bin .eql (.t 53) (.c (.int .i64 (-1)))), (some (51, true))⟩,
    ⟨some 55, .p (.mov (.t 54)), (some (51, true))⟩,
    ⟨some 56, .p (.lad 5 3), (some (55, false))⟩,
    ⟨some 57, .p (.loadL 5 1 false (some (.t 56))), (some (55, false))⟩,
    ⟨some 58, .p (.mov (.t 4)), (some (55, false))⟩,
    ⟨some 59, .p (.bin .add (.t 58) (.c (.int .i64 1))), (some (55, false))⟩,
    ⟨some 60, .p (.lad 1 0), (some (55, false))⟩,
    ⟨some 61, .p (.loadL 1 1 false (some (.t 60))), (some (55, false))⟩,
    ⟨some 62, .p (.len (.t 61)), (some (55, false))⟩,
    ⟨some 63, .p (.bin .sub (.t 62) (.c (.int .i64 1))), (some (55, false))⟩,
    ⟨some 64, .calli (.f 80) [.t 57, .t 59, .t 63], (some (55, false))⟩,
    ⟨some 65, .p (.pick (.t 55) (.c (.bool true)) (.t 64)), (some (51, true))⟩,
    ⟨some 66, .p (.pick (.t 51) (.t 65) (.c (.bool false))), none⟩,
    ⟨some 3, .p (.mov (.t 66)), none⟩]))))
  (.reg [⟨some 67, .p (.bin .add (.t 29) (.c (.int .i64 1))), none⟩,
    ⟨some 29, .p (.mov (.t 67)), none⟩]))))
def g78_drain_Check_l1 : ACode := (.seq (.reg [⟨some 72, .p (.bin .lss (.t 71) (.t 70)), none⟩])
  (.seq (.cond (.t 72) .skip (.exit 2))
  (.seq (.block 3 (.seq (.reg [⟨some 73, .p (.iaddr none 2 (.t 69) (.t 71)), none⟩,
    ⟨some 74, .p (.loadC 2 true (.t 73)), none⟩,
    ⟨some 7, .p (.allocL 7 [.int .i64 0, .int .i64 0]), none⟩,
    ⟨none, .p (.storeL 7 2 none (.t 74)), none⟩])
  (.reg [⟨some 75, .p (.mov (.t 3)), none⟩,
    ⟨some 76, .p (.mov (.t 75)), none⟩,
    ⟨some 77, .p (.lad 7 0), (some (76, true))⟩,
    ⟨some 78, .p (.loadL 7 1 false (some (.t 77))), (some (76, true))⟩,
    ⟨some 79, .p (.bin .leq (.c (.int .i64 0)) (.t 78)), (some (76, true))⟩,
    ⟨some 80, .p (.pick (.t 76) (.t 79) (.c (.bool false))), none⟩,
    ⟨some 81, .p (.mov (.t 80)), none⟩,
    ⟨some 82, .p (.lad 7 0), (some (81, true))⟩,
    ⟨some 83, .p (.loadL 7 1 false (some (.t 82))), (some (81, true))⟩,
    ⟨some 84, .p (.lad 7 1), (some (81, true))⟩,
    ⟨some 85, .p (.loadL 7 1 false (some (.t 84))), (some (81, true))⟩,
    ⟨some 86, .p (.bin .leq (.t 83) (.t 85)), (some (81, true))⟩,
    ⟨some 87, .p (.pick (.t 81) (.t 86) (.c (.bool false))), none⟩,
    ⟨some 88, .p (.mov (.t 87)), none⟩,
    ⟨some 89, .p (.lad 7 1), (some (88, true))⟩,
    ⟨some 90, .p (.loadL 7 1 false (some (.t 89))), (some (88, true))⟩,
    ⟨some 91, .p (.bin .leq (.t 90) (.c (.int .i64 9))), (some (88, true))⟩,
    ⟨some 92, .p (.pick (.t 88) (.t 91) (.c (.bool false))), none⟩,
    ⟨some 93, .p (.mov (.t 92)), none⟩,
    ⟨some 94, .p (.lad 7 1), (some (93, true))⟩,
    ⟨some 95, .p (.loadL 7 1 false (some (.t 94))), (some (93, true))⟩,
    ⟨some 96, .p (.lad 7 0), (some (93, true))⟩,
    ⟨some 97, .p (.loadL 7 1 false (some (.t 96))), (some (93, true))⟩,
    ⟨some 98, .p (.bin .sub (.t 95) (.t 97)), (some (93, true))⟩,
    ⟨some 99, .p (.bin .leq (.t 98) (.c (.int .i64 2))), (some (93, true))⟩,
    ⟨some 100, .p (.pick (.t 93) (.t 99) (.c (.bool false))), none⟩,
    ⟨some 3, .p (.mov (.t 100)), none⟩])))
  (.reg [⟨some 101, .p (.bin .add (.t 71) (.c (.int .i64 1))), none⟩,
    ⟨some 71, .p (.mov (.t 101)), none⟩]))))
def g78_drain_Check_l2 : ACode := (.seq (.reg [⟨some 106, .p (.bin .lss (.t 105) (.t 104)), none⟩])
  (.seq (.cond (.t 106) .skip (.exit 4))
  (.seq (.block 5 (.seq (.reg [⟨some 107, .p (.iaddr none 4 (.t 103) (.t 105)), none⟩,
    ⟨some 108, .p (.loadC 4 true (.t 107)), none⟩,
    ⟨some 9, .p (.allocL 9 [.int .i64 0, .int .i64 0, .int .i64 0, .int .i64 0]), none⟩,
    ⟨none, .p (.storeL 9 4 none (.t 108)), none⟩])
  (.reg [⟨some 109, .p (.mov (.t 3)), none⟩,
    ⟨some 110, .p (.mov (.t 109)), none⟩,
    ⟨some 111, .p (.loadL 1 3 true none), (some (110, true))⟩,
    ⟨some 112, .p (.loadL 9 4 true none), (some (110, true))⟩,
    ⟨some 113, .calli (.f 103) [.t 111, .t 112], (some (110, true))⟩,
    ⟨some 114, .p (.pick (.t 110) (.t 113) (.c (.bool false))), none⟩,
    ⟨some 3, .p (.mov (.t 114)), none⟩])))
  (.reg [⟨some 115, .p (.bin .add (.t 105) (.c (.int .i64 1))), none⟩,
    ⟨some 105, .p (.mov (.t 115)), none⟩]))))
def g78_drain_Check_c : ACode := (.seq (.reg [⟨some 1, .p (.boxL 1 (.t 0)), none⟩,
    ⟨some 2, .p (.mov (.c (.int .i64 0))), none⟩])
  (.seq (.reg [⟨some 10, .p (.lad 1 0), none⟩,
    ⟨some 11, .p (.loadL 1 1 false (some (.t 10))), none⟩,
    ⟨some 12, .p (.len (.t 11)), none⟩,
    ⟨some 13, .calli (.f 80) [.t 12, .c (.int .i64 1), .c (.int .i64 4)], none⟩,
    ⟨some 14, .p (.mov (.t 13)), none⟩,
    ⟨some 15, .p (.lad 1 1), (some (14, true))⟩,
    ⟨some 16, .p (.loadL 1 1 false (some (.t 15))), (some (14, true))⟩,
    ⟨some 17, .p (.len (.t 16)), (some (14, true))⟩,
    ⟨some 18, .calli (.f 80) [.t 17, .c (.int .i64 1), .c (.int .i64 4)], (some (14, true))⟩,
    ⟨some 19, .p (.pick (.t 14) (.t 18) (.c (.bool false))), none⟩,
    ⟨some 20, .p (.mov (.t 19)), none⟩,
    ⟨some 21, .p (.lad 1 2), (some (20, true))⟩,
    ⟨some 22, .p (.loadL 1 1 false (some (.t 21))), (some (20, true))⟩,
    ⟨some 23, .p (.len (.t 22)), (some (20, true))⟩,
    ⟨some 24, .p (.bin .leq (.t 23) (.c (.int .i64 5))), (some (20, true))⟩,
    ⟨some 25, .p (.pick (.t 20) (.t 24) (.c (.bool false))), none⟩,
    ⟨some 3, .p (.mov (.t 25)), none⟩])
  (.seq (.seq (.reg [⟨some 26, .p (.lad 1 0), none⟩,
    ⟨some 27, .p (.loadL 1 1 false (some (.t 26))), none⟩,
    ⟨some 28, .p (.len (.t 27)), none⟩,
    ⟨some 29, .p (.mov (.c (.int .i64 0))), none⟩])
  (.block 0 (.loop g78_drain_Check_l0)))
  (.seq (.seq (.reg [⟨some 68, .p (.lad 1 1), none⟩,
    ⟨some 69, .p (.loadL 1 1 false (some (.t 68))), none⟩,
    ⟨some 70, .p (.len (.t 69)), none⟩,
    ⟨some 71, .p (.mov (.c (.int .i64 0))), none⟩])
  (.block 2 (.loop g78_drain_Check_l1)))
  (.seq (.seq (.reg [⟨some 102, .p (.lad 1 2), none⟩,
    ⟨some 103, .p (.loadL 1 1 false (some (.t 102))), none⟩,
    ⟨some 104, .p (.len (.t 103)), none⟩,
    ⟨some 105, .p (.mov (.c (.int .i64 0))), none⟩])
  (.block 4 (.loop g78_drain_Check_l2)))
  (.seq (.seq (.reg [⟨some 116, .p (.mov (.t 3)), none⟩,
    ⟨some 117, .p (.un .not (.t 116)), none⟩])
  (.cond (.t 117) (.seq (.reg [⟨some 2, .p (.mov (.c (.int .i64 50))), none⟩])
  .ret) .skip))
  (.seq (.reg [⟨some 2, .p (.mov (.c (.int .i64 0))), none⟩])
  .ret)))))))
def g78_drain_Check : AFn := ⟨g78_drain_Check_c, [.t 2], 1⟩

/-- macadam/drain.opened -/
def g79_drain_opened_l0 : ACode := (.seq (.reg [⟨some 17, .p (.bin .lss (.t 16) (.t 15)), none⟩])
  (.seq (.cond (.t 17) .skip (.exit 0))
  (.seq (.block 1 (.seq (.reg [⟨some 18, .p (.mov (.t 16)), none⟩,
    ⟨some 19, .p (.iaddr none 4 (.t 14) (.t 16)), none⟩,
    ⟨some 20, .p (.loadC 4 true (.t 19)), none⟩,
    ⟨some 7, .p (.allocL 7 [.int .i64 0, .int .i64 0, .int .i64 0, .int .i64 0]), none⟩,
    ⟨some 6, .p (.mov (.t 18)), none⟩,
    ⟨none, .p (.storeL 7 4 none (.t 20)), none⟩])
  (.seq (.reg [⟨some 21, .p (.lad 7 0), none⟩,
    ⟨some 22, .p (.loadL 7 1 false (some (.t 21))), none⟩,
    ⟨some 23, .p (.lad 7 1), none⟩,
    ⟨some 24, .p (.loadL 7 1 false (some (.t 23))), none⟩,
    ⟨some 25, .p (.build [.int .i64 0, .int .i64 0] [(0, 1, .t 22), (1, 1, .t 24)]), none⟩,
    ⟨some 8, .p (.allocL 8 [.int .i64 0, .int .i64 0]), none⟩,
    ⟨none, .p (.storeL 8 2 none (.t 25)), none⟩])
  (.seq (.reg [⟨some 26, .p (.loadL 8 2 true none), none⟩,
    ⟨some 27, .p (.loadC 2 true (.g 4)), none⟩,
    ⟨some 28, .p (.eqn (some 2) true (.t 26) (.t 27)), none⟩,
    ⟨some 29, .p (.mov (.t 28)), none⟩,
    ⟨some 30, .p (.mov (.t 1)), (some (29, true))⟩,
    ⟨some 31, .p (.mov (.t 6)), (some (29, true))⟩,
    ⟨some 32, .calli (.f 70) [.t 30, .t 31], (some (29, true))⟩,
    ⟨some 33, .p (.un .not (.t 32)), (some (29, true))⟩,
    ⟨some 34, .p (.pick (.t 29) (.t 33) (.c (.bool false))), none⟩])
  (.cond (.t 34) (.reg [⟨some 35, .p (.faddr 3 (.t 5)), none⟩,
    ⟨some 36, .h (.load 1 false (.t 35)), none⟩,
    ⟨some 37, .p (.loadL 8 2 true none), none⟩,
    ⟨some 39, .p (.loadL 7 4 true none), none⟩,
    ⟨some 40, .p (.bslice 4 [.int .i64 0, .int .i64 0, .int .i64 0, .int .i64 0] 1 [(0, .t 39)]), none⟩,
    ⟨some 41, .h (.mapent 2 (.sl [] .exact) (.t 36) (.t 37)), none⟩,
    ⟨some 38, .p (.extract (.t 41) 0), none⟩,
    ⟨some 42, .h (.append 4 32 (.t 38) (.t 40)), none⟩,
    ⟨some 43, .p (.extract (.t 41) 1), none⟩,
    ⟨none, .h (.entst (.t 36) (.t 43) (.t 42)), none⟩]) .skip)))))
  (.reg [⟨some 44, .p (.bin .add (.t 16) (.c (.int .i64 1))), none⟩,
    ⟨some 16, .p (.mov (.t 44)), none⟩]))))
def g79_drain_opened_b1 : ACode := (.block 3 (.reg [⟨some 48, .p (.mov (.t 9)), none⟩,
    ⟨some 49, .p (.build [.int .i64 0, .int .i64 0, .int .i64 0, .int .i64 0, .int .i64 0, .int .i64 0, .int .i64 0, .int .i64 0, .int .i64 0, .int .i64 0, .int .i64 0, .int .i64 0, .int .i64 0, .int .i64 0, .int .i64 0, .int .i64 0, .int .i64 0, .int .i64 0, .int .i64 0, .int .i64 0, .int .i64 0, .int .i64 0, .int .i64 0, .int .i64 0, .int .i64 0] [(0, 1, .t 48)]), none⟩,
    ⟨some 50, .calli (.f 106) [], none⟩,
    ⟨some 51, .call (.f 105) [.t 5, .t 49, .c (.int .i64 0), .t 50], none⟩]))
def g79_drain_opened_c : ACode := (.seq (.reg [⟨some 2, .p (.boxL 2 (.t 0)), none⟩,
    ⟨some 4, .p (.allocL 4 [.sl [] .exact, .sl [] .exact, .sl [] .exact, .nilm, .sl [] .exact]), none⟩])
  (.seq (.reg [⟨some 10, .p (.loadL 2 3 true none), none⟩,
    ⟨some 11, .h .mkmap, none⟩,
    ⟨some 12, .p (.build [.sl [] .exact, .sl [] .exact, .sl [] .exact, .nilm, .sl [] .exact] [(0, 3, .t 10), (3, 1, .t 11)]), none⟩,
    ⟨some 5, .h (.alloc [.sl [] .exact, .sl [] .exact, .sl [] .exact, .nilm, .sl [] .exact]), none⟩,
    ⟨none, .h (.store 5 (.t 5) (.t 12)), none⟩])
  (.seq (.seq (.reg [⟨some 13, .p (.lad 2 2), none⟩,
    ⟨some 14, .p (.loadL 2 1 false (some (.t 13))), none⟩,
    ⟨some 15, .p (.len (.t 14)), none⟩,
    ⟨some 16, .p (.mov (.c (.int .i64 0))), none⟩])
  (.block 0 (.loop g79_drain_opened_l0)))
  (.seq (.seq (.reg [⟨some 45, .h (.load 5 true (.t 5)), none⟩,
    ⟨some 46, .call (.f 104) [.t 45], none⟩])
  (.block 2 (.rangeF (.t 46) [47] (.reg [⟨some 9, .p (.mov (.t 47)), none⟩]) g79_drain_opened_b1)))
  (.seq (.reg [⟨some 52, .h (.load 5 true (.t 5)), none⟩,
    ⟨none, .p (.storeL 4 5 none (.t 52)), none⟩])
  .ret)))))
def g79_drain_opened : AFn := ⟨g79_drain_opened_c, [.cellL 4 5 true], 2⟩

/-- macadam/drain.within -/
def g80_drain_within_c : ACode := (.seq (.reg [⟨some 6, .p (.mov (.c (.bool false))), none⟩])
  (.seq (.reg [⟨some 7, .p (.mov (.t 1)), none⟩,
    ⟨some 8, .p (.mov (.t 0)), none⟩,
    ⟨some 9, .p (.bin .leq (.t 7) (.t 8)), none⟩,
    ⟨some 10, .p (.mov (.t 9)), none⟩,
    ⟨some 11, .p (.mov (.t 0)), (some (10, true))⟩,
    ⟨some 12, .p (.mov (.t 2)), (some (10, true))⟩,
    ⟨some 13, .p (.bin .leq (.t 11) (.t 12)), (some (10, true))⟩,
    ⟨some 14, .p (.pick (.t 10) (.t 13) (.c (.bool false))), none⟩,
    ⟨some 6, .p (.mov (.t 14)), none⟩])
  .ret))
def g80_drain_within : AFn := ⟨g80_drain_within_c, [.t 6], 3⟩

/-- macadam/drain.least[int] -/
def g81_drain_least_l0 : ACode := (.seq (.reg [⟨some 10, .p (.bin .lss (.t 9) (.t 8)), none⟩])
  (.seq (.cond (.t 10) .skip (.exit 0))
  (.seq (.block 1 (.seq (.reg [⟨some 11, .p (.iaddr none 1 (.t 7) (.t 9)), none⟩,
    ⟨some 12, .p (.loadC 1 false (.t 11)), none⟩,
    ⟨some 6, .p (.mov (.t 12)), none⟩])
  (.reg [⟨some 13, .p (.mov (.t 0)), none⟩,
    ⟨some 14, .p (.mov (.t 6)), none⟩,
    ⟨some 15, .p (.mn [.t 13, .t 14]), none⟩,
    ⟨some 0, .p (.mov (.t 15)), none⟩])))
  (.reg [⟨some 16, .p (.bin .add (.t 9) (.c (.int .i64 1))), none⟩,
    ⟨some 9, .p (.mov (.t 16)), none⟩]))))
def g81_drain_least_c : ACode := (.seq (.reg [⟨some 4, .p (.mov (.c (.int .i64 0))), none⟩])
  (.seq (.seq (.reg [⟨some 7, .p (.mov (.t 1)), none⟩,
    ⟨some 8, .p (.len (.t 7)), none⟩,
    ⟨some 9, .p (.mov (.c (.int .i64 0))), none⟩])
  (.block 0 (.loop g81_drain_least_l0)))
  (.seq (.reg [⟨some 17, .p (.mov (.t 0)), none⟩,
    ⟨some 4, .p (.mov (.t 17)), none⟩])
  .ret)))
def g81_drain_least : AFn := ⟨g81_drain_least_c, [.t 4], 2⟩

/-- macadam/stone.Check -/
def g82_stone_Check_l0 : ACode := (.seq (.reg [⟨some 24, .p (.bin .lss (.t 23) (.t 22)), none⟩])
  (.seq (.cond (.t 24) .skip (.exit 0))
  (.seq (.block 1 (.seq (.reg [⟨some 25, .p (.iaddr none 4 (.t 21) (.t 23)), none⟩,
    ⟨some 26, .p (.loadC 4 true (.t 25)), none⟩,
    ⟨some 5, .p (.allocL 5 [.int .i64 0, .int .i64 0, .int .i64 0, .int .i64 0]), none⟩,
    ⟨none, .p (.storeL 5 4 none (.t 26)), none⟩])
  (.reg [⟨some 27, .p (.mov (.t 3)), none⟩,
    ⟨some 28, .p (.mov (.t 27)), none⟩,
    ⟨some 29, .p (.lad 5 0), (some (28, true))⟩,
    ⟨some 30, .p (.loadL 5 2 true (some (.t 29))), (some (28, true))⟩,
    ⟨some 31, .calli (.f 107) [.t 30, .c (.int .i64 60)], (some (28, true))⟩,
    ⟨some 32, .p (.pick (.t 28) (.t 31) (.c (.bool false))), none⟩,
    ⟨some 33, .p (.mov (.t 32)), none⟩,
    ⟨some 34, .p (.lad 5 0), (some (33, true))⟩,
    ⟨some 35, .p (.faddr 1 (.t 34)), (some (33, true))⟩,
    ⟨some 36, .p (.loadL 5 1 false (some (.t 35))), (some (33, true))⟩,
    ⟨some 37, .p (.lad 5 0), (some (33, true))⟩,
    ⟨some 38, .p (.faddr 0 (.t 37)), (some (33, true))⟩,
    ⟨some 39, .p (.loadL 5 1 false (some (.t 38))), (some (33, true))⟩,
    ⟨some 40, .p (.bin .sub (.t 36) (.t 39)), (some (33, true))⟩,
    ⟨some 41, .p (.bin .leq (.t 40) (.c (.int .i64 4))), (some (33, true))⟩,
    ⟨some 42, .p (.pick (.t 33) (.t 41) (.c (.bool false))), none⟩,
    ⟨some 43, .p (.mov (.t 42)), none⟩,
    ⟨some 44, .p (.lad 5 2), (some (43, true))⟩,
    ⟨some 45, .p (.loadL 5 2 true (some (.t 44))), (some (43, true))⟩,
    ⟨some 46, .calli (.f 107) [.t 45, .c (.int .i64 99)], (some (43, true))⟩,
    ⟨some 47, .p (.pick (.t 43) (.t 46) (.c (.bool false))), none⟩,
    ⟨some 3, .p (.mov (.t 47)), none⟩])))
  (.reg [⟨some 48, .p (.bin .add (.t 23) (.c (.int .i64 1))), none⟩,
    ⟨some 23, .p (.mov (.t 48)), none⟩]))))
def g82_stone_Check_l1 : ACode := (.seq (.reg [⟨some 53, .p (.bin .lss (.t 52) (.t 51)), none⟩])
  (.seq (.cond (.t 53) .skip (.exit 2))
  (.seq (.block 3 (.seq (.reg [⟨some 54, .p (.iaddr none 4 (.t 50) (.t 52)), none⟩,
    ⟨some 55, .p (.loadC 4 true (.t 54)), none⟩,
    ⟨some 7, .p (.allocL 7 [.int .i64 0, .int .i64 0, .int .i64 0, .int .i64 0]), none⟩,
    ⟨none, .p (.storeL 7 4 none (.t 55)), none⟩])
  (.reg [⟨some 56, .p (.mov (.t 3)), none⟩,
    ⟨some 57, .p (.mov (.t 56)), none⟩,
    ⟨some 58, .p (.loadL 1 6 true none), (some (57, true))⟩,
    ⟨some 59, .p (.lad 7 0), (some (57, true))⟩,
    ⟨some 60, .p (.loadL 7 1 false (some (.t 59))), (some (57, true))⟩,
    ⟨some 61, .calli (.f 108) [.t 58, .t 60], (some (57, true))⟩,
    ⟨some 62, .p (.pick (.t 57) (.t 61) (.c (.bool false))), none⟩,
    ⟨some 63, .p (.mov (.t 62)), none⟩,
    ⟨some 64, .p (.loadL 1 6 true none), (some (63, true))⟩,
    ⟨some 65, .p (.lad 7 1), (some (63, true))⟩,
    ⟨some 66, .p (.loadL 7 1 false (some (.t 65))), (some (63, true))⟩,
    ⟨some 67, .calli (.f 108) [.t 64, .t 66], (some (63, true))⟩,
    ⟨some 68, .p (.pick (.t 63) (.t 67) (.c (.bool false))), none⟩,
    ⟨some 69, .p (.mov (.t 68)), none⟩,
    ⟨some 70, .p (.lad 7 0), (some (69, true))⟩,
    ⟨some 71, .p (.loadL 7 1 false (some (.t 70))), (some (69, true))⟩,
    ⟨some 72, .p (.lad 7 1), (some (69, true))⟩,
    ⟨some 73, .p (.loadL 7 1 false (some (.t 72))), (some (69, true))⟩,
    ⟨some 74, .p (.bin .neq (.t 71) (.t 73)), (some (69, true))⟩,
    ⟨some 75, .p (.pick (.t 69) (.t 74) (.c (.bool false))), none⟩,
    ⟨some 76, .p (.mov (.t 75)), none⟩,
    ⟨some 77, .p (.lad 7 2), (some (76, true))⟩,
    ⟨some 78, .p (.loadL 7 1 false (some (.t 77))), (some (76, true))⟩,
    ⟨some 79, .calli (.f 109) [.t 78], (some (76, true))⟩,
    ⟨some 80, .p (.pick (.t 76) (.t 79) (.c (.bool false))), none⟩,
    ⟨some 81, .p (.mov (.t 80)), none⟩,
    ⟨some 82, .p (.lad 7 3), (some (81, true))⟩,
    ⟨some 83, .p (.loadL 7 1 false (some (.t 82))), (some (81, true))⟩,
    ⟨some 84, .calli (.f 86) [.t 83, .c (.int .i64 0), .c (.int .i64 6)], (some (81, true))⟩,
    ⟨some 85, .p (.pick (.t 81) (.t 84) (.c (.bool false))), none⟩,
    ⟨some 3, .p (.mov (.t 85)), none⟩])))
  (.reg [⟨some 86, .p (.bin .add (.t 52) (.c (.int .i64 1))), none⟩,
    ⟨some 52, .p (.mov (.t 86)), none⟩]))))
def g82_stone_Check_l2 : ACode := (.seq (.reg [⟨some 90, .p (.bin .lss (.t 89) (.c (.int .i64 4))), none⟩])
  (.seq (.cond (.t 90) .skip (.exit 4))
  (.seq (.block 5 (.seq (.reg [⟨some 91, .p (.index 4 1 false (.t 88) (.t 89)), none⟩,
    ⟨some 9, .p (.mov (.t 91)), none⟩])
  (.reg [⟨some 92, .p (.mov (.t 3)), none⟩,
    ⟨some 93, .p (.mov (.t 92)), none⟩,
    ⟨some 94, .p (.mov (.t 9)), (some (93, true))⟩,
    ⟨some 95, .calli (.f 86) [.t 94, .c (.int .i64 0), .c (.int .i64 2)], (some (93, true))⟩,
    ⟨some 96, .p (.pick (.t 93) (.t 95) (.c (.bool false))), none⟩,
    ⟨some 3, .p (.mov (.t 96)), none⟩])))
  (.reg [⟨some 97, .p (.bin .add (.t 89) (.c (.int .i64 1))), none⟩,
    ⟨some 89, .p (.mov (.t 97)), none⟩]))))
def g82_stone_Check_c : ACode := (.seq (.reg [⟨some 1, .p (.boxL 1 (.t 0)), none⟩,
    ⟨some 2, .p (.mov (.c (.int .i64 0))), none⟩])
  (.seq (.reg [⟨some 10, .p (.lad 1 0), none⟩,
    ⟨some 11, .p (.loadL 1 1 false (some (.t 10))), none⟩,
    ⟨some 12, .p (.len (.t 11)), none⟩,
    ⟨some 13, .calli (.f 86) [.t 12, .c (.int .i64 1), .c (.int .i64 4)], none⟩,
    ⟨some 14, .p (.mov (.t 13)), none⟩,
    ⟨some 15, .p (.lad 1 1), (some (14, true))⟩,
    ⟨some 16, .p (.loadL 1 1 false (some (.t 15))), (some (14, true))⟩,
    ⟨some 17, .p (.len (.t 16)), (some (14, true))⟩,
    ⟨some 18, .p (.bin .leq (.t 17) (.c (.int .i64 5))), (some (14, true))⟩,
    ⟨some 19, .p (.pick (.t 14) (.t 18) (.c (.bool false))), none⟩,
    ⟨some 3, .p (.mov (.t 19)), none⟩])
  (.seq (.seq (.reg [⟨some 20, .p (.lad 1 0), none⟩,
    ⟨some 21, .p (.loadL 1 1 false (some (.t 20))), none⟩,
    ⟨some 22, .p (.len (.t 21)), none⟩,
    ⟨some 23, .p (.mov (.c (.int .i64 0))), none⟩])
  (.block 0 (.loop g82_stone_Check_l0)))
  (.seq (.seq (.reg [⟨some 49, .p (.lad 1 1), none⟩,
    ⟨some 50, .p (.loadL 1 1 false (some (.t 49))), none⟩,
    ⟨some 51, .p (.len (.t 50)), none⟩,
    ⟨some 52, .p (.mov (.c (.int .i64 0))), none⟩])
  (.block 2 (.loop g82_stone_Check_l1)))
  (.seq (.seq (.reg [⟨some 87, .p (.lad 1 2), none⟩,
    ⟨some 88, .p (.loadL 1 4 true (some (.t 87))), none⟩,
    ⟨some 89, .p (.mov (.c (.int .i64 0))), none⟩])
  (.block 4 (.loop g82_stone_Check_l2)))
  (.seq (.seq (.reg [⟨some 98, .p (.mov (.t 3)), none⟩,
    ⟨some 99, .p (.un .not (.t 98)), none⟩])
  (.cond (.t 99) (.seq (.reg [⟨some 2, .p (.mov (.c (.int .i64 30))), none⟩])
  .ret) .skip))
  (.seq (.reg [⟨some 2, .p (.mov (.c (.int .i64 0))), none⟩])
  .ret)))))))
def g82_stone_Check : AFn := ⟨g82_stone_Check_c, [.t 2], 1⟩

/-- macadam/stone.opened -/
def g83_stone_opened_l0 : ACode := (.seq (.reg [⟨some 18, .p (.bin .lss (.t 17) (.t 16)), none⟩])
  (.seq (.cond (.t 18) .skip (.exit 0))
  (.seq (.block 1 (.seq (.reg [⟨some 19, .p (.mov (.t 17)), none⟩,
    ⟨some 20, .p (.iaddr none 4 (.t 15) (.t 17)), none⟩,
    ⟨some 21, .p (.loadC 4 true (.t 20)), none⟩,
    ⟨some 7, .p (.allocL 7 [.int .i64 0, .int .i64 0, .int .i64 0, .int .i64 0]), none⟩,
    ⟨some 6, .p (.mov (.t 19)), none⟩,
    ⟨none, .p (.storeL 7 4 none (.t 21)), none⟩])
  (.seq (.reg [⟨some 22, .p (.lad 5 7), none⟩,
    ⟨some 23, .p (.loadL 5 1 false (some (.t 22))), none⟩,
    ⟨some 24, .p (.lad 7 0), none⟩,
    ⟨some 25, .p (.loadL 7 1 false (some (.t 24))), none⟩,
    ⟨some 26, .p (.mov (.t 6)), none⟩,
    ⟨some 27, .p (.bin .add (.t 26) (.c (.int .i64 1))), none⟩,
    ⟨some 28, .p (.build [.int .i64 0, .int .i64 0] [(0, 1, .t 25), (1, 1, .t 27)]), none⟩,
    ⟨none, .h (.mapupd 2 (.t 23) (.t 28) (.c (.bool true))), none⟩])
  (.reg [⟨some 29, .p (.lad 5 7), none⟩,
    ⟨some 30, .p (.loadL 5 1 false (some (.t 29))), none⟩,
    ⟨some 31, .p (.lad 7 1), none⟩,
    ⟨some 32, .p (.loadL 7 1 false (some (.t 31))), none⟩,
    ⟨some 33, .p (.mov (.t 6)), none⟩,
    ⟨some 34, .p (.bin .add (.t 33) (.c (.int .i64 1))), none⟩,
    ⟨some 35, .p (.build [.int .i64 0, .int .i64 0] [(0, 1, .t 32), (1, 1, .t 34)]), none⟩,
    ⟨none, .h (.mapupd 2 (.t 30) (.t 35) (.c (.bool true))), none⟩]))))
  (.reg [⟨some 36, .p (.bin .add (.t 17) (.c (.int .i64 1))), none⟩,
    ⟨some 17, .p (.mov (.t 36)), none⟩]))))
def g83_stone_opened_c : ACode := (.seq (.reg [⟨some 2, .p (.boxL 2 (.t 0)), none⟩,
    ⟨some 3, .p (.boxL 3 (.t 1)), none⟩,
    ⟨some 4, .p (.allocL 4 [.sl [] .exact, .sl [] .exact, .int .i64 0, .int .i64 0, .int .i64 0, .int .i64 0, .nilf, .nilm]), none⟩])
  (.seq (.reg [⟨some 8, .p (.loadL 2 6 true none), none⟩,
    ⟨some 9, .p (.loadL 3 1 true none), none⟩,
    ⟨some 10, .h .mkmap, none⟩,
    ⟨some 11, .p (.loadC 2 true (.g 5)), none⟩,
    ⟨none, .h (.mapupd 2 (.t 10) (.t 11) (.c (.bool true))), none⟩,
    ⟨some 12, .p (.mov (.t 10)), none⟩,
    ⟨some 13, .p (.build [.sl [] .exact, .sl [] .exact, .int .i64 0, .int .i64 0, .int .i64 0, .int .i64 0, .nilf, .nilm] [(0, 6, .t 8), (6, 1, .t 9), (7, 1, .t 12)]), none⟩,
    ⟨some 5, .p (.allocL 5 [.sl [] .exact, .sl [] .exact, .int .i64 0, .int .i64 0, .int .i64 0, .int .i64 0, .nilf, .nilm]), none⟩,
    ⟨none, .p (.storeL 5 8 none (.t 13)), none⟩])
  (.seq (.seq (.reg [⟨some 14, .p (.lad 2 1), none⟩,
    ⟨some 15, .p (.loadL 2 1 false (some (.t 14))), none⟩,
    ⟨some 16, .p (.len (.t 15)), none⟩,
    ⟨some 17, .p (.mov (.c (.int .i64 0))), none⟩])
  (.block 0 (.loop g83_stone_opened_l0)))
  (.seq (.reg [⟨some 37, .p (.loadL 5 8 true none), none⟩,
    ⟨none, .p (.storeL 4 8 none (.t 37)), none⟩])
  .ret))))
def g83_stone_opened : AFn := ⟨g83_stone_opened_c, [.cellL 4 8 true], 2⟩

/-- macadam/stone.some -/
def g84_stone_some_c : ACode := (.seq (.reg [⟨some 1, .p (.boxL 1 (.t 0)), none⟩,
    ⟨some 2, .p (.allocL 2 [.nilf]), none⟩])
  (.seq (.frz [1] (.reg [⟨some 3, .p (.mkfn 110 [] [.t 1]), none⟩,
    ⟨some 4, .p (.build [.nilf] [(0, 1, .t 3)]), none⟩,
    ⟨none, .p (.storeL 2 1 none (.t 4)), none⟩]))
  .ret))
def g84_stone_some : AFn := ⟨g84_stone_some_c, [.cellL 2 1 true], 1⟩

/-- (macadam/stone.book).isTrue -/
def g85_stone_book_isTrue_b0 : ACode := (.block 1 (.seq (.reg [⟨none, .h (.store 1 (.t 2) (.c (.bool true))), none⟩])
  .ret))
def g85_stone_book_isTrue_c : ACode := (.seq (.reg [⟨some 1, .p (.boxL 1 (.t 0)), none⟩,
    ⟨some 2, .h (.alloc [.bool false]), none⟩])
  (.seq (.seq (.reg [⟨some 3, .p (.loadL 1 8 true none), none⟩,
    ⟨some 4, .calli (.f 87) [.t 3], none⟩])
  (.block 0 (.rangeF (.t 4) [5] .skip g85_stone_book_isTrue_b0)))
  (.seq (.reg [⟨none, .h (.store 1 (.t 2) (.c (.bool false))), none⟩])
  .ret)))
def g85_stone_book_isTrue : AFn := ⟨g85_stone_book_isTrue_c, [.cell 2 1 false], 1⟩

/-- macadam/stone.within -/
def g86_stone_within_c : ACode := (.seq (.reg [⟨some 6, .p (.mov (.c (.bool false))), none⟩])
  (.seq (.reg [⟨some 7, .p (.mov (.t 1)), none⟩,
    ⟨some 8, .p (.mov (.t 0)), none⟩,
    ⟨some 9, .p (.bin .leq (.t 7) (.t 8)), none⟩,
    ⟨some 10, .p (.mov (.t 9)), none⟩,
    ⟨some 11, .p (.mov (.t 0)), (some (10, true))⟩,
    ⟨some 12, .p (.mov (.t 2)), (some (10, true))⟩,
    ⟨some 13, .p (.bin .leq (.t 11) (.t 12)), (some (10, true))⟩,
    ⟨some 14, .p (.pick (.t 10) (.t 13) (.c (.bool false))), none⟩,
    ⟨some 6, .p (.mov (.t 14)), none⟩])
  .ret))
def g86_stone_within : AFn := ⟨g86_stone_within_c, [.t 6], 3⟩

/-- (macadam/stone.book).truths -/
def g87_stone_book_truths_c : ACode := (.seq (.reg [⟨some 1, .p (.boxL 1 (.t 0)), none⟩,
    ⟨some 2, .p (.mov (.c .nilf)), none⟩])
  (.seq (.frz [1] (.reg [⟨some 3, .p (.mkfn 111 [] [.t 1]), none⟩,
    ⟨some 2, .p (.mov (.t 3)), none⟩]))
  .ret))
def g87_stone_book_truths : AFn := ⟨g87_stone_book_truths_c, [.t 2], 1⟩

/-- (macadam/claim.book).last -/
def g88_claim_book_last_c : ACode := (.seq (.reg [⟨some 1, .p (.boxL 1 (.t 0)), none⟩,
    ⟨some 2, .p (.mov (.c (.int .i64 0))), none⟩])
  (.seq (.reg [⟨some 3, .p (.lad 1 0), none⟩,
    ⟨some 4, .p (.faddr 0 (.t 3)), none⟩,
    ⟨some 5, .p (.loadL 1 1 false (some (.t 4))), none⟩,
    ⟨some 6, .p (.len (.t 5)), none⟩,
    ⟨some 7, .p (.bin .sub (.t 6) (.c (.int .i64 1))), none⟩,
    ⟨some 2, .p (.mov (.t 7)), none⟩])
  .ret))
def g88_claim_book_last : AFn := ⟨g88_claim_book_last_c, [.t 2], 1⟩

/-- macadam/claim.sum[int] -/
def g89_claim_sum_l0 : ACode := (.seq (.reg [⟨some 9, .p (.bin .lss (.t 8) (.t 7)), none⟩])
  (.seq (.cond (.t 9) .skip (.exit 0))
  (.seq (.block 1 (.seq (.reg [⟨some 10, .p (.iaddr none 1 (.t 6) (.t 8)), none⟩,
    ⟨some 11, .p (.loadC 1 false (.t 10)), none⟩,
    ⟨some 5, .p (.mov (.t 11)), none⟩])
  (.reg [⟨some 12, .p (.mov (.t 3)), none⟩,
    ⟨some 13, .p (.mov (.t 5)), none⟩,
    ⟨some 14, .p (.bin .add (.t 12) (.t 13)), none⟩,
    ⟨some 3, .p (.mov (.t 14)), none⟩])))
  (.reg [⟨some 15, .p (.bin .add (.t 8) (.c (.int .i64 1))), none⟩,
    ⟨some 8, .p (.mov (.t 15)), none⟩]))))
def g89_claim_sum_c : ACode := (.seq (.reg [⟨some 2, .p (.mov (.c (.int .i64 0))), none⟩])
  (.seq (.reg [⟨some 3, .p (.mov (.c (.int .i64 0))), none⟩])
  (.seq (.seq (.reg [⟨some 6, .p (.mov (.t 0)), none⟩,
    ⟨some 7, .p (.len (.t 6)), none⟩,
    ⟨some 8, .p (.mov (.c (.int .i64 0))), none⟩])
  (.block 0 (.loop g89_claim_sum_l0)))
  (.seq (.reg [⟨some 16, .p (.mov (.t 3)), none⟩,
    ⟨some 2, .p (.mov (.t 16)), none⟩])
  .ret))))
def g89_claim_sum : AFn := ⟨g89_claim_sum_c, [.t 2], 1⟩

/-- slices.Index[[]int,int] -/
def g90_slices_Index_l0 : ACode := (.seq (.reg [⟨some 9, .p (.bin .lss (.t 8) (.t 7)), none⟩])
  (.seq (.cond (.t 9) .skip (.exit 0))
  (.seq (.block 1 (.seq (.reg [⟨some 10, .p (.mov (.t 8)), none⟩,
    ⟨some 5, .p (.mov (.t 10)), none⟩])
  (.seq (.reg [⟨some 11, .p (.mov (.t 1)), none⟩,
    ⟨some 12, .p (.mov (.t 0)), none⟩,
    ⟨some 13, .p (.mov (.t 5)), none⟩,
    ⟨some 14, .p (.iaddr none 1 (.t 12) (.t 13)), none⟩,
    ⟨some 15, .p (.loadC 1 false (.t 14)), none⟩,
    ⟨some 16, .p (.bin .eql (.t 11) (.t 15)), none⟩])
  (.cond (.t 16) (.seq (.reg [⟨some 17, .p (.mov (.t 5)), none⟩,
    ⟨some 4, .p (.mov (.t 17)), none⟩])
  .ret) .skip))))
  (.reg [⟨some 18, .p (.bin .add (.t 8) (.c (.int .i64 1))), none⟩,
    ⟨some 8, .p (.mov (.t 18)), none⟩]))))
def g90_slices_Index_c : ACode := (.seq (.reg [⟨some 4, .p (.mov (.c (.int .i64 0))), none⟩])
  (.seq (.seq (.reg [⟨some 6, .p (.mov (.t 0)), none⟩,
    ⟨some 7, .p (.len (.t 6)), none⟩,
    ⟨some 8, .p (.mov (.c (.int .i64 0))), none⟩])
  (.block 0 (.loop g90_slices_Index_l0)))
  (.seq (.reg [⟨some 4, .p (.mov (.c (.int .i64 (-1)))), none⟩])
  .ret)))
def g90_slices_Index : AFn := ⟨g90_slices_Index_c, [.t 4], 2⟩

/-- (macadam/claim.book).whole$1 -/
def g91_claim_book_whole_1_l0 : ACode := (.seq (.reg [⟨some 10, .p (.bin .lss (.t 9) (.c (.int .i64 3))), none⟩])
  (.seq (.cond (.t 10) .skip (.exit 0))
  (.seq (.block 1 (.seq (.reg [⟨some 11, .p (.mov (.t 9)), none⟩,
    ⟨some 5, .p (.mov (.t 11)), none⟩])
  (.seq (.reg [⟨some 12, .p (.faddr 0 (.t 1)), none⟩,
    ⟨some 13, .p (.faddr 1 (.t 12)), none⟩,
    ⟨some 14, .p (.loadC 1 false (.t 13)), none⟩,
    ⟨some 15, .p (.mov (.t 5)), none⟩,
    ⟨some 16, .p (.bin .shr (.t 14) (.t 15)), none⟩,
    ⟨some 17, .p (.bin .and (.t 16) (.c (.int .i64 1))), none⟩,
    ⟨some 18, .p (.bin .eql (.t 17) (.c (.int .i64 1))), none⟩,
    ⟨some 19, .p (.mov (.t 18)), none⟩,
    ⟨some 20, .h (.load 1 false (.t 4)), (some (19, true))⟩,
    ⟨some 21, .p (.mov (.t 5)), (some (19, true))⟩,
    ⟨some 22, .p (.build [.int .i64 0, .int .i64 0, .int .i64 0, .int .i64 0, .int .i64 0, .int .i64 0, .int .i64 0] [(0, 1, .t 21)]), (some (19, true))⟩,
    ⟨some 23, .call (.t 20) [.t 22, .c (.int .i64 0), .c (.int .i64 0)], (some (19, true))⟩,
    ⟨some 24, .p (.un .not (.t 23)), (some (19, true))⟩,
    ⟨some 25, .p (.pick (.t 19) (.t 24) (.c (.bool false))), none⟩])
  (.cond (.t 25) .ret .skip))))
  (.reg [⟨some 26, .p (.bin .add (.t 9) (.c (.int .i64 1))), none⟩,
    ⟨some 9, .p (.mov (.t 26)), none⟩]))))
def g91_claim_book_whole_1_c : ACode := (.seq (.reg [⟨some 2, .p (.boxL 2 (.t 0)), none⟩])
  (.seq (.reg [⟨some 6, .p (.loadC 9 true (.t 1)), none⟩,
    ⟨some 7, .p (.mkfn 92 [.t 6] []), none⟩,
    ⟨some 3, .p (.allocL 3 [.nilf]), none⟩,
    ⟨none, .p (.storeL 3 1 none (.t 7)), none⟩])
  (.seq (.reg [⟨some 4, .h (.alloc [.nilf]), none⟩])
  (.seq (.frz [2, 3] (.reg [⟨some 8, .p (.mkfn 93 [] [.t 1, .t 2, .t 3, .t 4]), none⟩,
    ⟨none, .h (.store 1 (.t 4) (.t 8)), none⟩]))
  (.seq (.reg [⟨some 9, .p (.mov (.c (.int .i64 0))), none⟩])
  (.block 0 (.loop g91_claim_book_whole_1_l0)))))))
def g91_claim_book_whole_1 : AFn := ⟨g91_claim_book_whole_1_c, [], 2⟩

/-- (macadam/claim.book).right -/
def g92_claim_book_right_l0 : ACode := (.seq (.reg [⟨some 29, .p (.bin .lss (.t 28) (.t 27)), none⟩])
  (.seq (.cond (.t 29) .skip (.exit 0))
  (.seq (.block 1 (.seq (.reg [⟨some 30, .p (.iaddr none 3 (.t 26) (.t 28)), none⟩,
    ⟨some 31, .p (.loadC 3 true (.t 30)), none⟩,
    ⟨some 9, .p (.allocL 9 [.int .i64 0, .int .i64 0, .int .i64 0]), none⟩,
    ⟨none, .p (.storeL 9 3 none (.t 31)), none⟩])
  (.reg [⟨some 32, .p (.mov (.t 7)), none⟩,
    ⟨some 33, .p (.mov (.t 32)), none⟩,
    ⟨some 34, .p (.lad 9 0), (some (33, true))⟩,
    ⟨some 35, .p (.loadL 9 1 false (some (.t 34))), (some (33, true))⟩,
    ⟨some 36, .p (.lad 3 0), (some (33, true))⟩,
    ⟨some 37, .p (.loadL 3 1 false (some (.t 36))), (some (33, true))⟩,
    ⟨some 38, .p (.bin .neq (.t 35) (.t 37)), (some (33, true))⟩,
    ⟨some 39, .p (.mov (.t 38)), (some (33, true))⟩,
    ⟨some 40, .p (.lad 9 1), (some (39, false))⟩,
    ⟨some 41, .p (.loadL 9 1 false (some (.t 40))), (some (39, false))⟩,
    ⟨some 42, .p (.lad 3 1), (some (39, false))⟩,
    ⟨some 43, .p (.loadL 3 1 false (some (.t 42))), (some (39, false))⟩,
    ⟨some 44, .p (.bin .sub (.t 41) (.t 43)), (some (39, false))⟩,
    ⟨some 45, .p (.lad 9 2), (some (39, false))⟩,
    ⟨some 46, .p (.loadL 9 1 false (some (.t 45))), (some (39, false))⟩,
    ⟨some 47, .p (.un .neg (.t 46)), (some (39, false))⟩,
    ⟨some 48, .p (.lad 9 2), (some (39, false))⟩,
    ⟨some 49, .p (.loadL 9 1 false (some (.t 48))), (some (39, false))⟩,
    ⟨some 50, .calli (.f 26) [.t 44, .t 47, .t 49], (some (39, false))⟩,
    ⟨some 51, .p (.pick (.t 39) (.c (.bool true)) (.t 50)), (some (33, true))⟩,
    ⟨some 52, .p (.pick (.t 33) (.t 51) (.c (.bool false))), none⟩,
    ⟨some 7, .p (.mov (.t 52)), none⟩])))
  (.reg [⟨some 53, .p (.bin .add (.t 28) (.c (.int .i64 1))), none⟩,
    ⟨some 28, .p (.mov (.t 53)), none⟩]))))
def g92_claim_book_right_c : ACode := (.seq (.reg [⟨some 2, .p (.boxL 2 (.t 0)), none⟩,
    ⟨some 3, .p (.boxL 3 (.t 1)), none⟩,
    ⟨some 4, .p (.mov (.c (.bool false))), none⟩])
  (.seq (.seq (.reg [⟨some 11, .p (.lad 2 7), none⟩,
    ⟨some 12, .p (.loadL 2 1 false (some (.t 11))), none⟩,
    ⟨some 13, .p (.loadL 3 2 true none), none⟩,
    ⟨some 14, .h (.lookup2 2 (.bool false) (.t 12) (.t 13)), none⟩,
    ⟨some 10, .p (.mov (.t 14)), none⟩,
    ⟨some 15, .p (.extract (.t 10) 0), none⟩,
    ⟨some 16, .p (.extract (.t 10) 1), none⟩,
    ⟨some 5, .p (.mov (.t 15)), none⟩,
    ⟨some 6, .p (.mov (.t 16)), none⟩])
  (.seq (.reg [⟨some 17, .p (.mov (.t 6)), none⟩,
    ⟨some 18, .p (.mov (.t 17)), none⟩,
    ⟨some 19, .p (.loadL 3 2 true none), (some (18, true))⟩,
    ⟨some 20, .p (.loadC 2 true (.g 1)), (some (18, true))⟩,
    ⟨some 21, .p (.eqn (some 2) true (.t 19) (.t 20)), (some (18, true))⟩,
    ⟨some 22, .p (.pick (.t 18) (.t 21) (.c (.bool false))), none⟩])
  (.cond (.t 22) (.seq (.reg [⟨some 23, .p (.mov (.t 5)), none⟩,
    ⟨some 4, .p (.mov (.t 23)), none⟩])
  .ret) .skip)))
  (.seq (.reg [⟨some 7, .p (.mov (.c (.bool true))), none⟩])
  (.seq (.seq (.reg [⟨some 24, .p (.lad 2 0), none⟩,
    ⟨some 25, .p (.faddr 5 (.t 24)), none⟩,
    ⟨some 26, .p (.loadL 2 1 false (some (.t 25))), none⟩,
    ⟨some 27, .p (.len (.t 26)), none⟩,
    ⟨some 28, .p (.mov (.c (.int .i64 0))), none⟩])
  (.block 0 (.loop g92_claim_book_right_l0)))
  (.seq (.reg [⟨some 54, .p (.lad 2 7), none⟩,
    ⟨some 55, .p (.loadL 2 1 false (some (.t 54))), none⟩,
    ⟨some 56, .p (.loadL 3 2 true none), none⟩,
    ⟨some 57, .p (.mov (.t 7)), none⟩,
    ⟨none, .h (.mapupd 2 (.t 55) (.t 56) (.t 57)), none⟩])
  (.seq (.reg [⟨some 58, .p (.mov (.t 7)), none⟩,
    ⟨some 4, .p (.mov (.t 58)), none⟩])
  .ret))))))
def g92_claim_book_right : AFn := ⟨g92_claim_book_right_c, [.t 4], 2⟩

/-- (macadam/claim.book).whole$1$1 -/
def g93_claim_book_whole_1_1_l0 : ACode := (.seq (.seq (.reg [⟨some 89, .p (.mov (.t 15)), none⟩,
    ⟨some 90, .p (.lad 11 5), none⟩,
    ⟨some 91, .p (.faddr 1 (.t 90)), none⟩,
    ⟨some 92, .p (.loadL 11 1 false (some (.t 91))), none⟩,
    ⟨some 93, .p (.bin .leq (.t 89) (.t 92)), none⟩])
  (.cond (.t 93) .skip (.exit 4)))
  (.seq (.block 5 (.seq (.reg [⟨some 96, .h (.load 1 false (.t 6)), none⟩,
    ⟨some 97, .p (.loadL 7 7 true none), none⟩,
    ⟨some 98, .p (.mov (.t 1)), none⟩,
    ⟨some 99, .p (.bin .add (.t 98) (.c (.int .i64 1))), none⟩,
    ⟨some 100, .p (.mov (.t 14)), none⟩,
    ⟨some 101, .p (.mov (.t 15)), none⟩,
    ⟨some 102, .p (.bin .add (.t 100) (.t 101)), none⟩,
    ⟨some 103, .call (.t 96) [.t 97, .t 99, .t 102], none⟩,
    ⟨some 104, .p (.un .not (.t 103)), none⟩])
  (.cond (.t 104) (.seq (.reg [⟨some 10, .p (.mov (.c (.bool false))), none⟩])
  .ret) .skip)))
  (.reg [⟨some 94, .p (.mov (.t 15)), none⟩,
    ⟨some 95, .p (.bin .add (.t 94) (.c (.int .i64 1))), none⟩,
    ⟨some 15, .p (.mov (.t 95)), none⟩])))
def g93_claim_book_whole_1_1_l1 : ACode := (.seq (.seq (.reg [⟨some 51, .p (.mov (.t 13)), none⟩,
    ⟨some 52, .p (.lad 11 3), none⟩,
    ⟨some 53, .p (.faddr 1 (.t 52)), none⟩,
    ⟨some 54, .p (.loadL 11 1 false (some (.t 53))), none⟩,
    ⟨some 55, .p (.bin .leq (.t 51) (.t 54)), none⟩])
  (.cond (.t 55) .skip (.exit 2)))
  (.seq (.block 3 (.seq (.reg [⟨some 58, .p (.mov (.t 2)), none⟩,
    ⟨some 59, .p (.lad 11 1), none⟩,
    ⟨some 60, .p (.faddr 0 (.t 59)), none⟩,
    ⟨some 61, .p (.loadL 11 1 false (some (.t 60))), none⟩,
    ⟨some 62, .p (.mov (.t 12)), none⟩,
    ⟨some 63, .p (.mov (.t 13)), none⟩,
    ⟨some 64, .p (.lad 7 0), none⟩,
    ⟨some 65, .p (.loadL 7 1 false (some (.t 64))), none⟩,
    ⟨some 66, .p (.faddr 0 (.t 3)), none⟩,
    ⟨some 67, .p (.faddr 2 (.t 66)), none⟩,
    ⟨some 68, .p (.iaddr (some 3) 1 (.t 67) (.t 65)), none⟩,
    ⟨some 69, .p (.loadC 1 false (.t 68)), none⟩,
    ⟨some 70, .p (.bslice 1 [.int .i64 0] 5 [(0, .t 58), (1, .t 61), (2, .t 62), (3, .t 63), (4, .t 69)]), none⟩,
    ⟨some 71, .calli (.f 89) [.t 70], none⟩,
    ⟨some 14, .p (.mov (.t 71)), none⟩])
  (.seq (.seq (.reg [⟨some 72, .p (.loadC 1 false (.t 5)), none⟩,
    ⟨some 73, .p (.mov (.t 1)), none⟩,
    ⟨some 74, .p (.mov (.t 14)), none⟩,
    ⟨some 75, .p (.build [.int .i64 0, .int .i64 0] [(0, 1, .t 73), (1, 1, .t 74)]), none⟩,
    ⟨some 76, .call (.t 72) [.t 75], none⟩,
    ⟨some 77, .p (.un .not (.t 76)), none⟩])
  (.cond (.t 77) (.exit 3) .skip))
  (.seq (.reg [⟨some 78, .p (.mov (.t 1)), none⟩,
    ⟨some 79, .p (.mov (.t 1)), none⟩,
    ⟨some 80, .p (.mov (.t 14)), none⟩,
    ⟨some 81, .p (.mov (.t 13)), none⟩,
    ⟨some 82, .p (.lad 7 1), none⟩,
    ⟨some 83, .p (.iaddr (some 3) 1 (.t 82) (.t 78)), none⟩,
    ⟨none, .p (.storeL 7 1 (some (.t 83)) (.t 80)), none⟩,
    ⟨some 84, .p (.lad 7 4), none⟩,
    ⟨some 85, .p (.iaddr (some 3) 1 (.t 84) (.t 79)), none⟩,
    ⟨none, .p (.storeL 7 1 (some (.t 85)) (.t 81)), none⟩])
  (.seq (.reg [⟨some 86, .p (.lad 11 5), none⟩,
    ⟨some 87, .p (.faddr 0 (.t 86)), none⟩,
    ⟨some 88, .p (.loadL 11 1 false (some (.t 87))), none⟩,
    ⟨some 15, .p (.mov (.t 88)), none⟩])
  (.block 4 (.loop g93_claim_book_whole_1_1_l0)))))))
  (.reg [⟨some 56, .p (.mov (.t 13)), none⟩,
    ⟨some 57, .p (.bin .add (.t 56) (.c (.int .i64 1))), none⟩,
    ⟨some 13, .p (.mov (.t 57)), none⟩])))
def g93_claim_book_whole_1_1_l2 : ACode := (.seq (.reg [⟨some 46, .p (.bin .lss (.t 45) (.t 44)), none⟩])
  (.seq (.cond (.t 46) .skip (.exit 0))
  (.seq (.block 1 (.seq (.reg [⟨some 47, .p (.mov (.t 45)), none⟩,
    ⟨some 12, .p (.mov (.t 47)), none⟩])
  (.scope (.seq .skip
  (.seq (.reg [⟨some 48, .p (.lad 11 3), none⟩,
    ⟨some 49, .p (.faddr 0 (.t 48)), none⟩,
    ⟨some 50, .p (.loadL 11 1 false (some (.t 49))), none⟩,
    ⟨some 13, .p (.mov (.t 50)), none⟩])
  (.block 2 (.loop g93_claim_book_whole_1_1_l1)))))))
  (.reg [⟨some 105, .p (.bin .add (.t 45) (.c (.int .i64 1))), none⟩,
    ⟨some 45, .p (.mov (.t 105)), none⟩]))))
def g93_claim_book_whole_1_1_c : ACode := (.seq (.reg [⟨some 7, .p (.boxL 7 (.t 0)), none⟩,
    ⟨some 10, .p (.mov (.c (.bool false))), none⟩])
  (.seq (.seq (.reg [⟨some 16, .p (.mov (.t 1)), none⟩,
    ⟨some 17, .p (.faddr 0 (.t 3)), none⟩,
    ⟨some 18, .p (.faddr 0 (.t 17)), none⟩,
    ⟨some 19, .p (.loadC 1 false (.t 18)), none⟩,
    ⟨some 20, .p (.len (.t 19)), none⟩,
    ⟨some 21, .p (.bin .eql (.t 16) (.t 20)), none⟩])
  (.cond (.t 21) (.seq (.reg [⟨some 22, .p (.lad 7 1), none⟩,
    ⟨some 23, .p (.loadL 7 3 true (some (.t 22))), none⟩,
    ⟨some 24, .calli (.f 94) [], none⟩,
    ⟨some 25, .p (.eqn (some 3) false (.t 23) (.t 24)), none⟩,
    ⟨some 26, .p (.mov (.t 25)), none⟩,
    ⟨some 27, .p (.loadC 1 false (.t 4)), (some (26, false))⟩,
    ⟨some 28, .p (.loadL 7 7 true none), (some (26, false))⟩,
    ⟨some 29, .call (.t 27) [.t 28], (some (26, false))⟩,
    ⟨some 30, .p (.pick (.t 26) (.c (.bool true)) (.t 29)), none⟩,
    ⟨some 10, .p (.mov (.t 30)), none⟩])
  .ret) .skip))
  (.seq (.reg [⟨some 31, .p (.faddr 0 (.t 3)), none⟩,
    ⟨some 32, .p (.faddr 0 (.t 31)), none⟩,
    ⟨some 33, .p (.loadC 1 false (.t 32)), none⟩,
    ⟨some 34, .p (.mov (.t 1)), none⟩,
    ⟨some 35, .p (.iaddr none 7 (.t 33) (.t 34)), none⟩,
    ⟨some 36, .p (.loadC 7 true (.t 35)), none⟩,
    ⟨some 11, .p (.allocL 11 [.int .i64 0, .int .i64 0, .int .i64 0, .int .i64 0, .int .i64 0, .int .i64 0, .int .i64 0]), none⟩,
    ⟨none, .p (.storeL 11 7 none (.t 36)), none⟩])
  (.seq (.seq (.reg [⟨some 37, .p (.lad 11 1), none⟩,
    ⟨some 38, .p (.faddr 1 (.t 37)), none⟩,
    ⟨some 39, .p (.loadL 11 1 false (some (.t 38))), none⟩,
    ⟨some 40, .p (.lad 11 1), none⟩,
    ⟨some 41, .p (.faddr 0 (.t 40)), none⟩,
    ⟨some 42, .p (.loadL 11 1 false (some (.t 41))), none⟩,
    ⟨some 43, .p (.bin .sub (.t 39) (.t 42)), none⟩,
    ⟨some 44, .p (.bin .add (.t 43) (.c (.int .i64 1))), none⟩,
    ⟨some 45, .p (.mov (.c (.int .i64 0))), none⟩])
  (.block 0 (.loop g93_claim_book_whole_1_1_l2)))
  (.seq (.reg [⟨some 10, .p (.mov (.c (.bool true))), none⟩])
  .ret)))))
def g93_claim_book_whole_1_1 : AFn := ⟨g93_claim_book_whole_1_1_c, [.t 10], 7⟩

/-- macadam/claim.waiting -/
def g94_claim_waiting_c : ACode := (.seq (.reg [⟨some 0, .p (.allocL 0 [.int .i64 0, .int .i64 0, .int .i64 0]), none⟩])
  (.seq (.reg [⟨some 1, .p (.allocL 1 [.int .i64 0, .int .i64 0, .int .i64 0]), none⟩])
  (.seq (.reg [⟨some 2, .p (.loadL 1 3 true none), none⟩,
    ⟨none, .p (.storeL 0 3 none (.t 2)), none⟩])
  .ret)))
def g94_claim_waiting : AFn := ⟨g94_claim_waiting_c, [.cellL 0 3 true], 0⟩

/-- macadam/rut.low -/
def g95_rut_low_c : ACode := (.seq (.reg [⟨some 0, .p (.allocL 0 [.nilf]), none⟩])
  (.seq (.reg [⟨some 1, .p (.build [.nilf] [(0, 1, .f 116)]), none⟩,
    ⟨none, .p (.storeL 0 1 none (.t 1)), none⟩])
  .ret))
def g95_rut_low : AFn := ⟨g95_rut_low_c, [.cellL 0 1 true], 0⟩

/-- macadam/rut.high -/
def g96_rut_high_c : ACode := (.seq (.reg [⟨some 0, .p (.allocL 0 [.nilf]), none⟩])
  (.seq (.reg [⟨some 1, .p (.build [.nilf] [(0, 1, .f 117)]), none⟩,
    ⟨none, .p (.storeL 0 1 none (.t 1)), none⟩])
  .ret))
def g96_rut_high : AFn := ⟨g96_rut_high_c, [.cellL 0 1 true], 0⟩

/-- (macadam/rut.book).costs$1 -/
def g97_rut_book_costs_1_c : ACode := (.seq (.reg [⟨some 2, .p (.boxL 2 (.t 0)), none⟩])
  (.seq (.reg [⟨some 3, .h (.alloc [.nilf]), none⟩])
  (.seq (.frz [2] (.reg [⟨some 4, .p (.mkfn 98 [] [.t 2, .t 1, .t 3]), none⟩,
    ⟨none, .h (.store 1 (.t 3) (.t 4)), none⟩]))
  (.reg [⟨some 5, .h (.load 1 false (.t 3)), none⟩,
    ⟨some 6, .calli (.f 99) [], none⟩,
    ⟨some 7, .call (.t 5) [.t 6, .c (.int .i64 0)], none⟩]))))
def g97_rut_book_costs_1 : AFn := ⟨g97_rut_book_costs_1_c, [], 2⟩

/-- (macadam/rut.book).costs$1$1 -/
def g98_rut_book_costs_1_1_l0 : ACode := (.seq (.reg [⟨some 27, .p (.bin .lss (.t 26) (.t 25)), none⟩])
  (.seq (.cond (.t 27) .skip (.exit 0))
  (.seq (.block 1 (.seq (.reg [⟨some 28, .p (.mov (.t 26)), none⟩,
    ⟨some 9, .p (.mov (.t 28)), none⟩])
  (.seq (.reg [⟨some 29, .p (.mov (.t 1)), none⟩,
    ⟨some 30, .p (.lad 8 0), none⟩,
    ⟨some 31, .p (.loadL 8 1 false (some (.t 30))), none⟩,
    ⟨some 32, .p (.mov (.t 9)), none⟩,
    ⟨some 33, .p (.bin .add (.t 31) (.t 32)), none⟩,
    ⟨some 34, .p (.ladi 5 3 1 (.t 29)), none⟩,
    ⟨none, .p (.storeL 5 1 (some (.t 34)) (.t 33)), none⟩])
  (.seq (.reg [⟨some 35, .h (.load 1 false (.t 4)), none⟩,
    ⟨some 36, .p (.loadL 5 3 true none), none⟩,
    ⟨some 37, .p (.mov (.t 1)), none⟩,
    ⟨some 38, .p (.bin .add (.t 37) (.c (.int .i64 1))), none⟩,
    ⟨some 39, .call (.t 35) [.t 36, .t 38], none⟩,
    ⟨some 40, .p (.un .not (.t 39)), none⟩])
  (.cond (.t 40) (.seq (.reg [⟨some 7, .p (.mov (.c (.bool false))), none⟩])
  .ret) .skip)))))
  (.reg [⟨some 41, .p (.bin .add (.t 26) (.c (.int .i64 1))), none⟩,
    ⟨some 26, .p (.mov (.t 41)), none⟩]))))
def g98_rut_book_costs_1_1_c : ACode := (.seq (.reg [⟨some 5, .p (.boxL 5 (.t 0)), none⟩,
    ⟨some 7, .p (.mov (.c (.bool false))), none⟩])
  (.seq (.seq (.reg [⟨some 10, .p (.mov (.t 1)), none⟩,
    ⟨some 11, .p (.bin .eql (.t 10) (.c (.int .i64 3))), none⟩])
  (.cond (.t 11) (.seq (.reg [⟨some 12, .p (.loadC 1 false (.t 2)), none⟩,
    ⟨some 13, .p (.loadL 5 3 true none), none⟩,
    ⟨some 14, .call (.t 12) [.t 13], none⟩,
    ⟨some 7, .p (.mov (.t 14)), none⟩])
  .ret) .skip))
  (.seq (.reg [⟨some 15, .p (.mov (.t 1)), none⟩,
    ⟨some 16, .p (.faddr 0 (.t 3)), none⟩,
    ⟨some 17, .p (.faddr 1 (.t 16)), none⟩,
    ⟨some 18, .p (.iaddr (some 3) 2 (.t 17) (.t 15)), none⟩,
    ⟨some 19, .p (.loadC 2 true (.t 18)), none⟩,
    ⟨some 8, .p (.allocL 8 [.int .i64 0, .int .i64 0]), none⟩,
    ⟨none, .p (.storeL 8 2 none (.t 19)), none⟩])
  (.seq (.seq (.reg [⟨some 20, .p (.lad 8 1), none⟩,
    ⟨some 21, .p (.loadL 8 1 false (some (.t 20))), none⟩,
    ⟨some 22, .p (.lad 8 0), none⟩,
    ⟨some 23, .p (.loadL 8 1 false (some (.t 22))), none⟩,
    ⟨some 24, .p (.bin .sub (.t 21) (.t 23)), none⟩,
    ⟨some 25, .p (.bin .add (.t 24) (.c (.int .i64 1))), none⟩,
    ⟨some 26, .p (.mov (.c (.int .i64 0))), none⟩])
  (.block 0 (.loop g98_rut_book_costs_1_1_l0)))
  (.seq (.reg [⟨some 7, .p (.mov (.c (.bool true))), none⟩])
  .ret)))))
def g98_rut_book_costs_1_1 : AFn := ⟨g98_rut_book_costs_1_1_c, [.t 7], 5⟩

/-- macadam/rut.nothing -/
def g99_rut_nothing_c : ACode := (.seq (.reg [⟨some 0, .p (.allocL 0 [.int .i64 0, .int .i64 0, .int .i64 0]), none⟩])
  (.seq (.reg [⟨some 1, .p (.allocL 1 [.int .i64 0, .int .i64 0, .int .i64 0]), none⟩])
  (.seq (.reg [⟨some 2, .p (.loadL 1 3 true none), none⟩,
    ⟨none, .p (.storeL 0 3 none (.t 2)), none⟩])
  .ret)))
def g99_rut_nothing : AFn := ⟨g99_rut_nothing_c, [.cellL 0 3 true], 0⟩

/-- (macadam/rut.book).nights$1 -/
def g100_rut_book_nights_1_c : ACode := (.seq (.reg [⟨some 2, .p (.boxL 2 (.t 0)), none⟩])
  (.seq (.reg [⟨some 3, .h (.alloc [.nilf]), none⟩])
  (.seq (.frz [2] (.reg [⟨some 4, .p (.mkfn 101 [] [.t 1, .t 2, .t 3]), none⟩,
    ⟨none, .h (.store 1 (.t 3) (.t 4)), none⟩]))
  (.reg [⟨some 5, .h (.load 1 false (.t 3)), none⟩,
    ⟨some 6, .call (.t 5) [.c (.int .i64 0), .c (.int .i64 0)], none⟩]))))
def g100_rut_book_nights_1 : AFn := ⟨g100_rut_book_nights_1_c, [], 2⟩

/-- (macadam/rut.book).nights$1$1 -/
def g101_rut_book_nights_1_1_c : ACode := (.seq (.reg [⟨some 7, .p (.mov (.c (.bool false))), none⟩])
  (.seq (.seq (.reg [⟨some 9, .p (.mov (.t 1)), none⟩,
    ⟨some 10, .p (.faddr 0 (.t 2)), none⟩,
    ⟨some 11, .p (.faddr 7 (.t 10)), none⟩,
    ⟨some 12, .p (.loadC 1 false (.t 11)), none⟩,
    ⟨some 13, .p (.len (.t 12)), none⟩,
    ⟨some 14, .p (.bin .eql (.t 9) (.t 13)), none⟩])
  (.cond (.t 14) (.seq (.reg [⟨some 15, .p (.loadC 1 false (.t 3)), none⟩,
    ⟨some 16, .p (.mov (.t 0)), none⟩,
    ⟨some 17, .call (.t 15) [.t 16], none⟩,
    ⟨some 7, .p (.mov (.t 17)), none⟩])
  .ret) .skip))
  (.seq (.reg [⟨some 18, .p (.faddr 0 (.t 2)), none⟩,
    ⟨some 19, .p (.faddr 7 (.t 18)), none⟩,
    ⟨some 20, .p (.loadC 1 false (.t 19)), none⟩,
    ⟨some 21, .p (.mov (.t 1)), none⟩,
    ⟨some 22, .p (.iaddr none 3 (.t 20) (.t 21)), none⟩,
    ⟨some 23, .p (.faddr 2 (.t 22)), none⟩,
    ⟨some 24, .p (.loadC 1 false (.t 23)), none⟩,
    ⟨some 8, .p (.mov (.t 24)), none⟩])
  (.seq (.seq (.reg [⟨some 25, .p (.mov (.t 8)), none⟩,
    ⟨some 26, .p (.bin .neq (.t 25) (.c (.int .i64 2))), none⟩,
    ⟨some 27, .p (.mov (.t 26)), none⟩,
    ⟨some 28, .h (.load 1 false (.t 4)), (some (27, true))⟩,
    ⟨some 29, .p (.mov (.t 0)), (some (27, true))⟩,
    ⟨some 30, .p (.mov (.t 1)), (some (27, true))⟩,
    ⟨some 31, .p (.bin .add (.t 30) (.c (.int .i64 1))), (some (27, true))⟩,
    ⟨some 32, .call (.t 28) [.t 29, .t 31], (some (27, true))⟩,
    ⟨some 33, .p (.un .not (.t 32)), (some (27, true))⟩,
    ⟨some 34, .p (.pick (.t 27) (.t 33) (.c (.bool false))), none⟩])
  (.cond (.t 34) (.seq (.reg [⟨some 7, .p (.mov (.c (.bool false))), none⟩])
  .ret) .skip))
  (.seq (.reg [⟨some 35, .p (.mov (.t 8)), none⟩,
    ⟨some 36, .p (.bin .eql (.t 35) (.c (.int .i64 0))), none⟩,
    ⟨some 37, .p (.mov (.t 36)), none⟩,
    ⟨some 38, .h (.load 1 false (.t 4)), (some (37, false))⟩,
    ⟨some 39, .p (.mov (.t 0)), (some (37, false))⟩,
    ⟨some 40, .p (.mov (.t 1)), (some (37, false))⟩,
    ⟨some 41, .p (.bin .shl (.c (.int .i64 1)) (.t 40)), (some (37, false))⟩,
    ⟨some 42, .p (.bin .or (.t 39) (.t 41)), (some (37, false))⟩,
    ⟨some 43, .p (.mov (.t 1)), (some (37, false))⟩,
    ⟨some 44, .p (.bin .add (.t 43) (.c (.int .i64 1))), (some (37, false))⟩,
    ⟨some 45, .call (.t 38) [.t 42, .t 44], (some (37, false))⟩,
    ⟨some 46, .p (.pick (.t 37) (.c (.bool true)) (.t 45)), none⟩,
    ⟨some 7, .p (.mov (.t 46)), none⟩])
  .ret)))))
def g101_rut_book_nights_1_1 : AFn := ⟨g101_rut_book_nights_1_1_c, [.t 7], 5⟩

/-- (macadam/rut.book).cost -/
def g102_rut_book_cost_c : ACode := (.seq (.reg [⟨some 4, .p (.boxL 4 (.t 0)), none⟩,
    ⟨some 6, .p (.boxL 6 (.t 2)), none⟩,
    ⟨some 8, .p (.mov (.c (.int .i64 0))), none⟩])
  (.seq (.seq (.reg [⟨some 10, .p (.loadL 6 3 true none), none⟩,
    ⟨some 11, .calli (.f 99) [], none⟩,
    ⟨some 12, .p (.eqn (some 3) false (.t 10) (.t 11)), none⟩])
  (.cond (.t 12) (.seq (.reg [⟨some 8, .p (.mov (.c (.int .i64 0))), none⟩])
  .ret) .skip))
  (.seq (.reg [⟨some 13, .p (.lad 4 0), none⟩,
    ⟨some 14, .p (.faddr 7 (.t 13)), none⟩,
    ⟨some 15, .p (.loadL 4 1 false (some (.t 14))), none⟩,
    ⟨some 16, .p (.mov (.t 1)), none⟩,
    ⟨some 17, .p (.iaddr none 3 (.t 15) (.t 16)), none⟩,
    ⟨some 18, .p (.loadC 3 true (.t 17)), none⟩,
    ⟨some 9, .p (.allocL 9 [.int .i64 0, .int .i64 0, .int .i64 0]), none⟩,
    ⟨none, .p (.storeL 9 3 none (.t 18)), none⟩])
  (.seq (.reg [⟨some 19, .p (.lad 9 0), none⟩,
    ⟨some 20, .p (.loadL 9 1 false (some (.t 19))), none⟩,
    ⟨some 21, .p (.ladi 6 3 1 (.c (.int .i64 0))), none⟩,
    ⟨some 22, .p (.loadL 6 1 false (some (.t 21))), none⟩,
    ⟨some 23, .p (.bin .mul (.t 20) (.t 22)), none⟩,
    ⟨some 24, .p (.lad 9 1), none⟩,
    ⟨some 25, .p (.loadL 9 1 false (some (.t 24))), none⟩,
    ⟨some 26, .p (.ladi 6 3 1 (.c (.int .i64 1))), none⟩,
    ⟨some 27, .p (.loadL 6 1 false (some (.t 26))), none⟩,
    ⟨some 28, .p (.bin .mul (.t 25) (.t 27)), none⟩,
    ⟨some 29, .p (.mov (.t 3)), none⟩,
    ⟨some 30, .p (.mov (.t 1)), none⟩,
    ⟨some 31, .p (.bin .shr (.t 29) (.t 30)), none⟩,
    ⟨some 32, .p (.bin .and (.t 31) (.c (.int .i64 1))), none⟩,
    ⟨some 33, .p (.ladi 6 3 1 (.c (.int .i64 2))), none⟩,
    ⟨some 34, .p (.loadL 6 1 false (some (.t 33))), none⟩,
    ⟨some 35, .p (.bin .mul (.t 32) (.t 34)), none⟩,
    ⟨some 36, .p (.bslice 1 [.int .i64 0] 3 [(0, .t 23), (1, .t 28), (2, .t 35)]), none⟩,
    ⟨some 37, .calli (.f 118) [.t 36], none⟩,
    ⟨some 8, .p (.mov (.t 37)), none⟩])
  .ret))))
def g102_rut_book_cost : AFn := ⟨g102_rut_book_cost_c, [.t 8], 4⟩

/-- macadam/drain.isMark -/
def g103_drain_isMark_c : ACode := (.seq (.reg [⟨some 2, .p (.boxL 2 (.t 0)), none⟩,
    ⟨some 3, .p (.boxL 3 (.t 1)), none⟩,
    ⟨some 4, .p (.mov (.c (.bool false))), none⟩])
  (.seq (.reg [⟨some 5, .p (.loadL 2 3 true none), none⟩,
    ⟨some 6, .p (.lad 3 0), none⟩,
    ⟨some 7, .p (.loadL 3 1 false (some (.t 6))), none⟩,
    ⟨some 8, .calli (.f 119) [.t 5, .t 7], none⟩,
    ⟨some 9, .p (.mov (.t 8)), none⟩,
    ⟨some 10, .p (.loadL 2 3 true none), (some (9, true))⟩,
    ⟨some 11, .p (.lad 3 1), (some (9, true))⟩,
    ⟨some 12, .p (.loadL 3 1 false (some (.t 11))), (some (9, true))⟩,
    ⟨some 13, .calli (.f 60) [.t 10, .t 12], (some (9, true))⟩,
    ⟨some 14, .p (.pick (.t 9) (.t 13) (.c (.bool false))), none⟩,
    ⟨some 15, .p (.mov (.t 14)), none⟩,
    ⟨some 16, .p (.lad 3 2), (some (15, true))⟩,
    ⟨some 17, .p (.loadL 3 1 false (some (.t 16))), (some (15, true))⟩,
    ⟨some 18, .calli (.f 80) [.t 17, .c (.int .i64 0), .c (.int .i64 20)], (some (15, true))⟩,
    ⟨some 19, .p (.pick (.t 15) (.t 18) (.c (.bool false))), none⟩,
    ⟨some 20, .p (.mov (.t 19)), none⟩,
    ⟨some 21, .p (.lad 3 3), (some (20, true))⟩,
    ⟨some 22, .p (.loadL 3 1 false (some (.t 21))), (some (20, true))⟩,
    ⟨some 23, .calli (.f 80) [.t 22, .c (.int .i64 0), .c (.int .i64 3)], (some (20, true))⟩,
    ⟨some 24, .p (.pick (.t 20) (.t 23) (.c (.bool false))), none⟩,
    ⟨some 4, .p (.mov (.t 24)), none⟩])
  .ret))
def g103_drain_isMark : AFn := ⟨g103_drain_isMark_c, [.t 4], 2⟩

/-- (macadam/drain.book).opens -/
def g104_drain_book_opens_c : ACode := (.seq (.reg [⟨some 1, .p (.boxL 1 (.t 0)), none⟩,
    ⟨some 2, .p (.mov (.c .nilf)), none⟩])
  (.seq (.frz [1] (.reg [⟨some 3, .p (.mkfn 120 [] [.t 1]), none⟩,
    ⟨some 2, .p (.mov (.t 3)), none⟩]))
  .ret))
def g104_drain_book_opens : AFn := ⟨g104_drain_book_opens_c, [.t 2], 1⟩

/-- (*macadam/drain.book).rains -/
def g105_drain_book_rains_l0 : ACode := (.seq (.reg [⟨some 50, .p (.bin .lss (.t 49) (.t 48)), none⟩])
  (.seq (.cond (.t 50) .skip (.exit 0))
  (.seq (.block 1 (.seq (.reg [⟨some 51, .p (.mov (.t 49)), none⟩,
    ⟨some 10, .p (.mov (.t 51)), none⟩])
  (.seq (.reg [⟨some 53, .p (.mov (.t 0)), none⟩,
    ⟨some 54, .p (.nilchk (.t 53)), none⟩,
    ⟨some 55, .h (.load 5 true (.t 54)), none⟩,
    ⟨some 56, .p (.loadL 7 4 true none), none⟩,
    ⟨some 57, .p (.lad 5 0), none⟩,
    ⟨some 58, .p (.loadL 5 1 false (some (.t 57))), none⟩,
    ⟨some 59, .p (.lad 9 0), none⟩,
    ⟨some 60, .p (.loadL 9 1 false (some (.t 59))), none⟩,
    ⟨some 61, .p (.mov (.t 10)), none⟩,
    ⟨some 62, .p (.bin .add (.t 60) (.t 61)), none⟩,
    ⟨some 63, .calli (.f 124) [], none⟩,
    ⟨some 64, .call (.f 123) [.t 55, .t 56, .t 58, .t 62, .t 63], none⟩,
    ⟨some 52, .p (.mov (.t 64)), none⟩,
    ⟨some 65, .p (.extract (.t 52) 0), none⟩,
    ⟨some 66, .p (.extract (.t 52) 1), none⟩,
    ⟨some 11, .p (.allocL 11 [.int .i64 0, .int .i64 0, .int .i64 0, .int .i64 0]), none⟩,
    ⟨none, .p (.storeL 11 4 none (.t 65)), none⟩,
    ⟨some 12, .p (.mov (.t 66)), none⟩])
  (.seq (.seq (.reg [⟨some 67, .p (.mov (.t 8)), none⟩,
    ⟨some 68, .p (.mov (.t 2)), none⟩,
    ⟨some 69, .p (.loadL 11 4 true none), none⟩,
    ⟨some 70, .call (.t 67) [.t 68, .t 69], none⟩,
    ⟨some 71, .p (.un .not (.t 70)), none⟩])
  (.cond (.t 71) (.exit 1) .skip))
  (.seq (.reg [⟨some 72, .p (.mov (.t 2)), none⟩,
    ⟨some 73, .p (.mov (.t 2)), none⟩,
    ⟨some 74, .p (.mov (.t 2)), none⟩,
    ⟨some 75, .p (.lad 9 0), none⟩,
    ⟨some 76, .p (.loadL 9 1 false (some (.t 75))), none⟩,
    ⟨some 77, .p (.mov (.t 10)), none⟩,
    ⟨some 78, .p (.bin .add (.t 76) (.t 77)), none⟩,
    ⟨some 79, .p (.loadL 11 4 true none), none⟩,
    ⟨some 80, .p (.mov (.t 12)), none⟩,
    ⟨some 81, .p (.lad 5 1), none⟩,
    ⟨some 82, .p (.iaddr (some 4) 1 (.t 81) (.t 72)), none⟩,
    ⟨none, .p (.storeL 5 1 (some (.t 82)) (.t 78)), none⟩,
    ⟨some 83, .p (.lad 5 9), none⟩,
    ⟨some 84, .p (.iaddr (some 4) 4 (.t 83) (.t 73)), none⟩,
    ⟨none, .p (.storeL 5 4 (some (.t 84)) (.t 79)), none⟩,
    ⟨some 85, .p (.lad 5 5), none⟩,
    ⟨some 86, .p (.iaddr (some 4) 1 (.t 85) (.t 74)), none⟩,
    ⟨none, .p (.storeL 5 1 (some (.t 86)) (.t 80)), none⟩])
  (.reg [⟨some 87, .p (.mov (.t 0)), none⟩,
    ⟨some 88, .p (.loadL 5 25 true none), none⟩,
    ⟨some 89, .p (.mov (.t 2)), none⟩,
    ⟨some 90, .p (.bin .add (.t 89) (.c (.int .i64 1))), none⟩,
    ⟨some 91, .p (.loadL 11 4 true none), none⟩,
    ⟨some 92, .call (.f 105) [.t 87, .t 88, .t 90, .t 91], none⟩]))))))
  (.reg [⟨some 93, .p (.bin .add (.t 49) (.c (.int .i64 1))), none⟩,
    ⟨some 49, .p (.mov (.t 93)), none⟩]))))
def g105_drain_book_rains_c : ACode := (.seq (.reg [⟨some 5, .p (.boxL 5 (.t 1)), none⟩,
    ⟨some 7, .p (.boxL 7 (.t 3)), none⟩])
  (.scope (.seq (.seq (.reg [⟨some 13, .p (.mov (.t 2)), none⟩,
    ⟨some 14, .p (.mov (.t 0)), none⟩,
    ⟨some 15, .p (.nilchk (.t 14)), none⟩,
    ⟨some 16, .p (.faddr 0 (.t 15)), none⟩,
    ⟨some 17, .p (.faddr 1 (.t 16)), none⟩,
    ⟨some 18, .h (.load 1 false (.t 17)), none⟩,
    ⟨some 19, .p (.len (.t 18)), none⟩,
    ⟨some 20, .p (.bin .eql (.t 13) (.t 19)), none⟩])
  (.cond (.t 20) (.seq (.reg [⟨some 21, .p (.mov (.t 0)), none⟩,
    ⟨some 22, .p (.mov (.t 0)), none⟩,
    ⟨some 23, .p (.nilchk (.t 22)), none⟩,
    ⟨some 24, .p (.faddr 4 (.t 23)), none⟩,
    ⟨some 25, .h (.load 1 false (.t 24)), none⟩,
    ⟨some 26, .p (.loadL 5 25 true none), none⟩,
    ⟨some 27, .p (.bslice 25 [.int .i64 0, .int .i64 0, .int .i64 0, .int .i64 0, .int .i64 0, .int .i64 0, .int .i64 0, .int .i64 0, .int .i64 0, .int .i64 0, .int .i64 0, .int .i64 0, .int .i64 0, .int .i64 0, .int .i64 0, .int .i64 0, .int .i64 0, .int .i64 0, .int .i64 0, .int .i64 0, .int .i64 0, .int .i64 0, .int .i64 0, .int .i64 0, .int .i64 0] 1 [(0, .t 26)]), none⟩,
    ⟨some 28, .h (.append 25 200 (.t 25) (.t 27)), none⟩,
    ⟨some 29, .p (.nilchk (.t 21)), none⟩,
    ⟨some 30, .p (.faddr 4 (.t 29)), none⟩,
    ⟨none, .h (.store 1 (.t 30) (.t 28)), none⟩])
  .ret) .skip))
  (.seq (.reg [⟨some 31, .p (.mov (.t 0)), none⟩,
    ⟨some 32, .p (.nilchk (.t 31)), none⟩,
    ⟨some 33, .h (.load 5 true (.t 32)), none⟩,
    ⟨some 34, .p (.mkfn 122 [.t 33] []), none⟩,
    ⟨some 8, .p (.mov (.t 34)), none⟩])
  (.seq (.reg [⟨some 35, .p (.mov (.t 0)), none⟩,
    ⟨some 36, .p (.nilchk (.t 35)), none⟩,
    ⟨some 37, .p (.faddr 0 (.t 36)), none⟩,
    ⟨some 38, .p (.faddr 1 (.t 37)), none⟩,
    ⟨some 39, .h (.load 1 false (.t 38)), none⟩,
    ⟨some 40, .p (.mov (.t 2)), none⟩,
    ⟨some 41, .p (.iaddr none 2 (.t 39) (.t 40)), none⟩,
    ⟨some 42, .p (.loadC 2 true (.t 41)), none⟩,
    ⟨some 9, .p (.allocL 9 [.int .i64 0, .int .i64 0]), none⟩,
    ⟨none, .p (.storeL 9 2 none (.t 42)), none⟩])
  (.seq .skip
  (.seq (.reg [⟨some 43, .p (.lad 9 1), none⟩,
    ⟨some 44, .p (.loadL 9 1 false (some (.t 43))), none⟩,
    ⟨some 45, .p (.lad 9 0), none⟩,
    ⟨some 46, .p (.loadL 9 1 false (some (.t 45))), none⟩,
    ⟨some 47, .p (.bin .sub (.t 44) (.t 46)), none⟩,
    ⟨some 48, .p (.bin .add (.t 47) (.c (.int .i64 1))), none⟩,
    ⟨some 49, .p (.mov (.c (.int .i64 0))), none⟩])
  (.block 0 (.loop g105_drain_book_rains_l0)))))))))
def g105_drain_book_rains : AFn := ⟨g105_drain_book_rains_c, [], 4⟩

/-- macadam/drain.dry -/
def g106_drain_dry_c : ACode := (.seq (.reg [⟨some 0, .p (.allocL 0 [.int .i64 0, .int .i64 0, .int .i64 0, .int .i64 0]), none⟩])
  (.seq (.reg [⟨some 1, .p (.allocL 1 [.int .i64 0, .int .i64 0, .int .i64 0, .int .i64 0]), none⟩])
  (.seq (.reg [⟨some 2, .p (.loadL 1 4 true none), none⟩,
    ⟨none, .p (.storeL 0 4 none (.t 2)), none⟩])
  .ret)))
def g106_drain_dry : AFn := ⟨g106_drain_dry_c, [.cellL 0 4 true], 0⟩

/-- macadam/stone.isSpan -/
def g107_stone_isSpan_c : ACode := (.seq (.reg [⟨some 2, .p (.boxL 2 (.t 0)), none⟩,
    ⟨some 4, .p (.mov (.c (.bool false))), none⟩])
  (.seq (.reg [⟨some 5, .p (.lad 2 0), none⟩,
    ⟨some 6, .p (.loadL 2 1 false (some (.t 5))), none⟩,
    ⟨some 7, .p (.bin .leq (.c (.int .i64 0)) (.t 6)), none⟩,
    ⟨some 8, .p (.mov (.t 7)), none⟩,
    ⟨some 9, .p (.lad 2 0), (some (8, true))⟩,
    ⟨some 10, .p (.loadL 2 1 false (some (.t 9))), (some (8, true))⟩,
    ⟨some 11, .p (.lad 2 1), (some (8, true))⟩,
    ⟨some 12, .p (.loadL 2 1 false (some (.t 11))), (some (8, true))⟩,
    ⟨some 13, .p (.bin .leq (.t 10) (.t 12)), (some (8, true))⟩,
    ⟨some 14, .p (.pick (.t 8) (.t 13) (.c (.bool false))), none⟩,
    ⟨some 15, .p (.mov (.t 14)), none⟩,
    ⟨some 16, .p (.lad 2 1), (some (15, true))⟩,
    ⟨some 17, .p (.loadL 2 1 false (some (.t 16))), (some (15, true))⟩,
    ⟨some 18, .p (.mov (.t 1)), (some (15, true))⟩,
    ⟨some 19, .p (.bin .leq (.t 17) (.t 18)), (some (15, true))⟩,
    ⟨some 20, .p (.pick (.t 15) (.t 19) (.c (.bool false))), none⟩,
    ⟨some 4, .p (.mov (.t 20)), none⟩])
  .ret))
def g107_stone_isSpan : AFn := ⟨g107_stone_isSpan_c, [.t 4], 2⟩

/-- macadam/stone.isEnd -/
def g108_stone_isEnd_c : ACode := (.seq (.reg [⟨some 2, .p (.boxL 2 (.t 0)), none⟩,
    ⟨some 4, .p (.mov (.c (.bool false))), none⟩])
  (.seq (.reg [⟨some 5, .p (.mov (.t 1)), none⟩,
    ⟨some 6, .p (.bin .eql (.t 5) (.c (.int .i64 (-1)))), none⟩,
    ⟨some 7, .p (.mov (.t 6)), none⟩,
    ⟨some 8, .p (.loadL 2 6 true none), (some (7, false))⟩,
    ⟨some 9, .p (.mov (.t 1)), (some (7, false))⟩,
    ⟨some 10, .calli (.f 125) [.t 8, .t 9], (some (7, false))⟩,
    ⟨some 11, .p (.pick (.t 7) (.c (.bool true)) (.t 10)), none⟩,
    ⟨some 4, .p (.mov (.t 11)), none⟩])
  .ret))
def g108_stone_isEnd : AFn := ⟨g108_stone_isEnd_c, [.t 4], 2⟩

/-- macadam/stone.isCarter -/
def g109_stone_isCarter_c : ACode := (.seq (.reg [⟨some 2, .p (.mov (.c (.bool false))), none⟩])
  (.seq (.reg [⟨some 3, .p (.mov (.t 0)), none⟩,
    ⟨some 4, .calli (.f 86) [.t 3, .c (.int .i64 0), .c (.int .i64 3)], none⟩,
    ⟨some 2, .p (.mov (.t 4)), none⟩])
  .ret))
def g109_stone_isCarter : AFn := ⟨g109_stone_isCarter_c, [.t 2], 1⟩

/-- macadam/stone.some$1 -/
def g110_stone_some_1_c : ACode := (.seq (.reg [⟨some 3, .p (.mov (.c (.bool false))), none⟩])
  (.seq (.reg [⟨some 4, .p (.loadC 1 false (.t 1)), none⟩,
    ⟨some 5, .p (.mov (.t 0)), none⟩,
    ⟨some 6, .calli (.f 70) [.t 4, .t 5], none⟩,
    ⟨some 3, .p (.mov (.t 6)), none⟩])
  .ret))
def g110_stone_some_1 : AFn := ⟨g110_stone_some_1_c, [.t 3], 2⟩

/-- (macadam/stone.book).truths$1 -/
def g111_stone_book_truths_1_c : ACode := (.seq (.reg [⟨some 2, .p (.boxL 2 (.t 0)), none⟩])
  (.seq (.reg [⟨some 5, .p (.loadC 8 true (.t 1)), none⟩,
    ⟨some 6, .p (.mkfn 112 [.t 5] []), none⟩,
    ⟨some 3, .p (.allocL 3 [.nilf]), none⟩,
    ⟨none, .p (.storeL 3 1 none (.t 6)), none⟩])
  (.seq (.reg [⟨some 4, .h (.alloc [.nilf]), none⟩])
  (.seq (.frz [2, 3] (.reg [⟨some 7, .p (.mkfn 113 [] [.t 1, .t 2, .t 3, .t 4]), none⟩,
    ⟨none, .h (.store 1 (.t 4) (.t 7)), none⟩]))
  (.reg [⟨some 8, .h (.load 1 false (.t 4)), none⟩,
    ⟨some 9, .calli (.f 115) [], none⟩,
    ⟨some 10, .call (.t 8) [.t 9, .c (.int .i64 0)], none⟩])))))
def g111_stone_book_truths_1 : AFn := ⟨g111_stone_book_truths_1_c, [], 2⟩

/-- (macadam/stone.book).right -/
def g112_stone_book_right_c : ACode := (.seq (.reg [⟨some 3, .p (.boxL 3 (.t 0)), none⟩,
    ⟨some 6, .p (.mov (.c (.bool false))), none⟩])
  (.seq (.reg [⟨some 8, .p (.lad 3 0), none⟩,
    ⟨some 9, .p (.faddr 1 (.t 8)), none⟩,
    ⟨some 10, .p (.loadL 3 1 false (some (.t 9))), none⟩,
    ⟨some 11, .p (.mov (.t 1)), none⟩,
    ⟨some 12, .p (.iaddr none 4 (.t 10) (.t 11)), none⟩,
    ⟨some 13, .p (.loadC 4 true (.t 12)), none⟩,
    ⟨some 7, .p (.allocL 7 [.int .i64 0, .int .i64 0, .int .i64 0, .int .i64 0]), none⟩,
    ⟨none, .p (.storeL 7 4 none (.t 13)), none⟩])
  (.seq (.reg [⟨some 14, .p (.lad 3 6), none⟩,
    ⟨some 15, .p (.faddr 0 (.t 14)), none⟩,
    ⟨some 16, .p (.loadL 3 1 false (some (.t 15))), none⟩,
    ⟨some 17, .p (.mov (.t 1)), none⟩,
    ⟨some 18, .calli (.t 16) [.t 17], none⟩,
    ⟨some 19, .p (.mov (.t 18)), none⟩,
    ⟨some 20, .p (.lad 7 3), (some (19, false))⟩,
    ⟨some 21, .p (.loadL 7 1 false (some (.t 20))), (some (19, false))⟩,
    ⟨some 22, .p (.mov (.t 2)), (some (19, false))⟩,
    ⟨some 23, .p (.bin .sub (.t 21) (.t 22)), (some (19, false))⟩,
    ⟨some 24, .p (.lad 7 2), (some (19, false))⟩,
    ⟨some 25, .p (.loadL 7 1 false (some (.t 24))), (some (19, false))⟩,
    ⟨some 26, .p (.lad 3 0), (some (19, false))⟩,
    ⟨some 27, .p (.faddr 2 (.t 26)), (some (19, false))⟩,
    ⟨some 28, .p (.iaddr (some 4) 1 (.t 27) (.t 25)), (some (19, false))⟩,
    ⟨some 29, .p (.loadL 3 1 false (some (.t 28))), (some (19, false))⟩,
    ⟨some 30, .calli (.f 86) [.t 23, .c (.int .i64 0), .t 29], (some (19, false))⟩,
    ⟨some 31, .p (.pick (.t 19) (.c (.bool true)) (.t 30)), none⟩,
    ⟨some 6, .p (.mov (.t 31)), none⟩])
  .ret)))
def g112_stone_book_right : AFn := ⟨g112_stone_book_right_c, [.t 6], 3⟩

/-- (macadam/stone.book).truths$1$1 -/
def g113_stone_book_truths_1_1_l0 : ACode := (.seq (.reg [⟨some 27, .p (.bin .lss (.t 26) (.t 25)), none⟩])
  (.seq (.cond (.t 27) .skip (.exit 0))
  (.seq (.block 1 (.seq (.reg [⟨some 28, .p (.mov (.t 26)), none⟩,
    ⟨some 10, .p (.mov (.t 28)), none⟩])
  (.seq (.reg [⟨some 30, .p (.loadC 8 true (.t 2)), none⟩,
    ⟨some 31, .p (.loadL 6 5 true none), none⟩,
    ⟨some 32, .p (.mov (.t 10)), none⟩,
    ⟨some 33, .calli (.f 114) [.t 30, .t 31, .t 32], none⟩,
    ⟨some 29, .p (.mov (.t 33)), none⟩,
    ⟨some 34, .p (.extract (.t 29) 0), none⟩,
    ⟨some 35, .p (.extract (.t 29) 1), none⟩,
    ⟨some 11, .p (.allocL 11 [.int .i64 0, .int .i64 0]), none⟩,
    ⟨none, .p (.storeL 11 2 none (.t 34)), none⟩,
    ⟨some 12, .p (.mov (.t 35)), none⟩])
  (.seq (.seq (.reg [⟨some 36, .p (.mov (.t 12)), none⟩,
    ⟨some 37, .p (.un .not (.t 36)), none⟩])
  (.cond (.t 37) (.seq (.reg [⟨some 8, .p (.mov (.c (.bool true))), none⟩])
  .ret) .skip))
  (.reg [⟨some 38, .p (.mov (.t 10)), none⟩,
    ⟨some 39, .p (.loadL 11 2 true none), none⟩,
    ⟨some 40, .p (.lad 9 5), none⟩,
    ⟨some 41, .p (.iaddr (some 4) 2 (.t 40) (.t 38)), none⟩,
    ⟨none, .p (.storeL 9 2 (some (.t 41)) (.t 39)), none⟩])))))
  (.reg [⟨some 42, .p (.bin .add (.t 26) (.c (.int .i64 1))), none⟩,
    ⟨some 26, .p (.mov (.t 42)), none⟩]))))
def g113_stone_book_truths_1_1_l1 : ACode := (.seq (.reg [⟨some 47, .p (.bin .lss (.t 46) (.c (.int .i64 7))), none⟩])
  (.seq (.cond (.t 47) .skip (.exit 2))
  (.seq (.block 3 (.seq (.reg [⟨some 48, .p (.mov (.t 46)), none⟩,
    ⟨some 13, .p (.mov (.t 48)), none⟩])
  (.seq (.seq (.reg [⟨some 49, .p (.loadC 1 false (.t 4)), none⟩,
    ⟨some 50, .p (.mov (.t 1)), none⟩,
    ⟨some 51, .p (.mov (.t 13)), none⟩,
    ⟨some 52, .calli (.t 49) [.t 50, .t 51], none⟩,
    ⟨some 53, .p (.un .not (.t 52)), none⟩])
  (.cond (.t 53) (.exit 3) .skip))
  (.seq (.reg [⟨some 54, .p (.mov (.t 1)), none⟩,
    ⟨some 55, .p (.mov (.t 13)), none⟩,
    ⟨some 56, .p (.ladi 6 5 1 (.t 54)), none⟩,
    ⟨none, .p (.storeL 6 1 (some (.t 56)) (.t 55)), none⟩])
  (.seq (.reg [⟨some 57, .h (.load 1 false (.t 5)), none⟩,
    ⟨some 58, .p (.loadL 6 5 true none), none⟩,
    ⟨some 59, .p (.mov (.t 1)), none⟩,
    ⟨some 60, .p (.bin .add (.t 59) (.c (.int .i64 1))), none⟩,
    ⟨some 61, .call (.t 57) [.t 58, .t 60], none⟩,
    ⟨some 62, .p (.un .not (.t 61)), none⟩])
  (.cond (.t 62) (.seq (.reg [⟨some 8, .p (.mov (.c (.bool false))), none⟩])
  .ret) .skip))))))
  (.reg [⟨some 63, .p (.bin .add (.t 46) (.c (.int .i64 1))), none⟩,
    ⟨some 46, .p (.mov (.t 63)), none⟩]))))
def g113_stone_book_truths_1_1_c : ACode := (.seq (.reg [⟨some 6, .p (.boxL 6 (.t 0)), none⟩,
    ⟨some 8, .p (.mov (.c (.bool false))), none⟩])
  (.scope (.seq (.seq (.reg [⟨some 14, .p (.mov (.t 1)), none⟩,
    ⟨some 15, .p (.faddr 0 (.t 2)), none⟩,
    ⟨some 16, .p (.faddr 1 (.t 15)), none⟩,
    ⟨some 17, .p (.loadC 1 false (.t 16)), none⟩,
    ⟨some 18, .p (.len (.t 17)), none⟩,
    ⟨some 19, .p (.bin .eql (.t 14) (.t 18)), none⟩])
  (.cond (.t 19) (.seq (.reg [⟨some 20, .p (.loadL 6 5 true none), none⟩,
    ⟨some 21, .p (.build [.int .i64 0, .int .i64 0, .int .i64 0, .int .i64 0, .int .i64 0, .int .i64 0, .int .i64 0, .int .i64 0, .int .i64 0, .int .i64 0, .int .i64 0, .int .i64 0, .int .i64 0] [(0, 5, .t 20)]), none⟩,
    ⟨some 9, .p (.allocL 9 [.int .i64 0, .int .i64 0, .int .i64 0, .int .i64 0, .int .i64 0, .int .i64 0, .int .i64 0, .int .i64 0, .int .i64 0, .int .i64 0, .int .i64 0, .int .i64 0, .int .i64 0]), none⟩,
    ⟨none, .p (.storeL 9 13 none (.t 21)), none⟩])
  (.seq (.seq (.reg [⟨some 22, .p (.faddr 0 (.t 2)), none⟩,
    ⟨some 23, .p (.faddr 0 (.t 22)), none⟩,
    ⟨some 24, .p (.loadC 1 false (.t 23)), none⟩,
    ⟨some 25, .p (.len (.t 24)), none⟩,
    ⟨some 26, .p (.mov (.c (.int .i64 0))), none⟩])
  (.block 0 (.loop g113_stone_book_truths_1_1_l0)))
  (.seq (.reg [⟨some 43, .p (.loadC 1 false (.t 3)), none⟩,
    ⟨some 44, .p (.loadL 9 13 true none), none⟩,
    ⟨some 45, .call (.t 43) [.t 44], none⟩,
    ⟨some 8, .p (.mov (.t 45)), none⟩])
  .ret))) .skip))
  (.seq .skip
  (.seq (.seq (.reg [⟨some 46, .p (.mov (.c (.int .i64 0))), none⟩])
  (.block 2 (.loop g113_stone_book_truths_1_1_l1)))
  (.seq (.reg [⟨some 8, .p (.mov (.c (.bool true))), none⟩])
  .ret))))))
def g113_stone_book_truths_1_1 : AFn := ⟨g113_stone_book_truths_1_1_c, [.t 8], 6⟩

/-- (macadam/stone.book).first -/
def g114_stone_book_first_l0 : ACode := (.seq (.reg [⟨some 51, .p (.bin .lss (.t 50) (.t 49)), none⟩])
  (.seq (.cond (.t 51) .skip (.exit 0))
  (.seq (.block 1 (.seq (.reg [⟨some 52, .p (.mov (.t 50)), none⟩,
    ⟨some 11, .p (.mov (.t 52)), none⟩])
  (.reg [⟨some 53, .p (.lad 10 0), none⟩,
    ⟨some 54, .p (.loadL 10 1 false (some (.t 53))), none⟩,
    ⟨some 55, .p (.loadL 3 8 true none), none⟩,
    ⟨some 56, .p (.loadL 4 5 true none), none⟩,
    ⟨some 57, .p (.mov (.t 2)), none⟩,
    ⟨some 58, .p (.mov (.t 11)), none⟩,
    ⟨some 59, .calli (.f 126) [.t 55, .t 56, .t 57, .t 58], none⟩,
    ⟨some 60, .p (.un .neg (.t 59)), none⟩,
    ⟨some 61, .p (.mx [.t 54, .t 60]), none⟩,
    ⟨some 62, .p (.lad 10 0), none⟩,
    ⟨none, .p (.storeL 10 1 (some (.t 62)) (.t 61)), none⟩])))
  (.reg [⟨some 63, .p (.bin .add (.t 50) (.c (.int .i64 1))), none⟩,
    ⟨some 50, .p (.mov (.t 63)), none⟩]))))
def g114_stone_book_first_c : ACode := (.seq (.reg [⟨some 3, .p (.boxL 3 (.t 0)), none⟩,
    ⟨some 4, .p (.boxL 4 (.t 1)), none⟩,
    ⟨some 6, .p (.allocL 6 [.int .i64 0, .int .i64 0]), none⟩,
    ⟨some 7, .p (.mov (.c (.bool false))), none⟩])
  (.seq (.reg [⟨some 12, .p (.lad 3 0), none⟩,
    ⟨some 13, .p (.faddr 0 (.t 12)), none⟩,
    ⟨some 14, .p (.loadL 3 1 false (some (.t 13))), none⟩,
    ⟨some 15, .p (.mov (.t 2)), none⟩,
    ⟨some 16, .p (.iaddr none 4 (.t 14) (.t 15)), none⟩,
    ⟨some 17, .p (.loadC 4 true (.t 16)), none⟩,
    ⟨some 18, .p (.loadL 3 8 true none), none⟩,
    ⟨some 19, .p (.loadL 4 5 true none), none⟩,
    ⟨some 20, .p (.mov (.t 2)), none⟩,
    ⟨some 21, .p (.lad 3 0), none⟩,
    ⟨some 22, .p (.faddr 1 (.t 21)), none⟩,
    ⟨some 23, .p (.loadL 3 1 false (some (.t 22))), none⟩,
    ⟨some 24, .p (.len (.t 23)), none⟩,
    ⟨some 25, .calli (.f 126) [.t 18, .t 19, .t 20, .t 24], none⟩,
    ⟨some 8, .p (.allocL 8 [.int .i64 0, .int .i64 0, .int .i64 0, .int .i64 0]), none⟩,
    ⟨none, .p (.storeL 8 4 none (.t 17)), none⟩,
    ⟨some 9, .p (.mov (.t 25)), none⟩])
  (.seq (.reg [⟨some 26, .p (.lad 8 0), none⟩,
    ⟨some 27, .p (.faddr 0 (.t 26)), none⟩,
    ⟨some 28, .p (.loadL 8 1 false (some (.t 27))), none⟩,
    ⟨some 29, .p (.lad 8 2), none⟩,
    ⟨some 30, .p (.faddr 0 (.t 29)), none⟩,
    ⟨some 31, .p (.loadL 8 1 false (some (.t 30))), none⟩,
    ⟨some 32, .p (.mov (.t 9)), none⟩,
    ⟨some 33, .p (.bin .sub (.t 31) (.t 32)), none⟩,
    ⟨some 34, .p (.mx [.t 28, .t 33]), none⟩,
    ⟨some 35, .p (.lad 8 0), none⟩,
    ⟨some 36, .p (.faddr 1 (.t 35)), none⟩,
    ⟨some 37, .p (.loadL 8 1 false (some (.t 36))), none⟩,
    ⟨some 38, .p (.lad 8 2), none⟩,
    ⟨some 39, .p (.faddr 1 (.t 38)), none⟩,
    ⟨some 40, .p (.loadL 8 1 false (some (.t 39))), none⟩,
    ⟨some 41, .p (.mov (.t 9)), none⟩,
    ⟨some 42, .p (.bin .sub (.t 40) (.t 41)), none⟩,
    ⟨some 43, .p (.mn [.t 37, .t 42]), none⟩,
    ⟨some 44, .p (.build [.int .i64 0, .int .i64 0] [(0, 1, .t 34), (1, 1, .t 43)]), none⟩,
    ⟨some 10, .p (.allocL 10 [.int .i64 0, .int .i64 0]), none⟩,
    ⟨none, .p (.storeL 10 2 none (.t 44)), none⟩])
  (.seq (.seq (.reg [⟨some 45, .p (.lad 3 0), none⟩,
    ⟨some 46, .p (.faddr 1 (.t 45)), none⟩,
    ⟨some 47, .p (.loadL 3 1 false (some (.t 46))), none⟩,
    ⟨some 48, .p (.len (.t 47)), none⟩,
    ⟨some 49, .p (.bin .add (.t 48) (.c (.int .i64 1))), none⟩,
    ⟨some 50, .p (.mov (.c (.int .i64 0))), none⟩])
  (.block 0 (.loop g114_stone_book_first_l0)))
  (.seq (.reg [⟨some 64, .p (.loadL 10 2 true none), none⟩,
    ⟨some 65, .p (.lad 10 0), none⟩,
    ⟨some 66, .p (.loadL 10 1 false (some (.t 65))), none⟩,
    ⟨some 67, .p (.lad 10 1), none⟩,
    ⟨some 68, .p (.loadL 10 1 false (some (.t 67))), none⟩,
    ⟨some 69, .p (.bin .leq (.t 66) (.t 68)), none⟩,
    ⟨none, .p (.storeL 6 2 none (.t 64)), none⟩,
    ⟨some 7, .p (.mov (.t 69)), none⟩])
  .ret)))))
def g114_stone_book_first : AFn := ⟨g114_stone_book_first_c, [.cellL 6 2 true, .t 7], 3⟩

/-- macadam/stone.nothing -/
def g115_stone_nothing_c : ACode := (.seq (.reg [⟨some 0, .p (.allocL 0 [.int .i64 0, .int .i64 0, .int .i64 0, .int .i64 0, .int .i64 0]), none⟩])
  (.seq (.reg [⟨some 1, .p (.allocL 1 [.int .i64 0, .int .i64 0, .int .i64 0, .int .i64 0, .int .i64 0]), none⟩])
  (.seq (.reg [⟨some 2, .p (.loadL 1 5 true none), none⟩,
    ⟨none, .p (.storeL 0 5 none (.t 2)), none⟩])
  .ret)))
def g115_stone_nothing : AFn := ⟨g115_stone_nothing_c, [.cellL 0 5 true], 0⟩

/-- macadam/rut.low$1 -/
def g116_rut_low_1_c : ACode := (.seq (.reg [⟨some 1, .p (.boxL 1 (.t 0)), none⟩,
    ⟨some 2, .p (.mov (.c (.int .i64 0))), none⟩])
  (.seq (.reg [⟨some 3, .p (.lad 1 0), none⟩,
    ⟨some 4, .p (.loadL 1 1 false (some (.t 3))), none⟩,
    ⟨some 2, .p (.mov (.t 4)), none⟩])
  .ret))
def g116_rut_low_1 : AFn := ⟨g116_rut_low_1_c, [.t 2], 1⟩

/-- macadam/rut.high$1 -/
def g117_rut_high_1_c : ACode := (.seq (.reg [⟨some 1, .p (.boxL 1 (.t 0)), none⟩,
    ⟨some 2, .p (.mov (.c (.int .i64 0))), none⟩])
  (.seq (.reg [⟨some 3, .p (.lad 1 1), none⟩,
    ⟨some 4, .p (.loadL 1 1 false (some (.t 3))), none⟩,
    ⟨some 2, .p (.mov (.t 4)), none⟩])
  .ret))
def g117_rut_high_1 : AFn := ⟨g117_rut_high_1_c, [.t 2], 1⟩

end Av
end
