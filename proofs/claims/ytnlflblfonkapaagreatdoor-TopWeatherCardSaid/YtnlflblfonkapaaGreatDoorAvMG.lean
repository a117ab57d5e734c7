/- The lowered text, second part: data. -/
import Derived.Test.YtnlflblfonkapaaGreatDoorAvMF
set_option linter.all false
set_option linter.unusedSectionVars false
set_option linter.unusedVariables false
set_option linter.unusedSimpArgs false
set_option linter.unnecessarySimpa false
section
/- The lowered text of the program, printed by a program of this session out of the translation; IrC holds it against the translation. -/
namespace Av
open Go (IntKind BinOp UnOp)
/-- macadam/rut.sum[int] -/
def g118_rut_sum_l0 : ACode := (.seq (.reg [⟨some 9, .p (.bin .lss (.t 8) (.t 7)), none⟩])
  (.seq (.cond (.t 9) .skip (.exit 0))
  (.seq (.block 1 (.seq (.reg [⟨some 10, .p (.iaddr none 1 (.t 6) (.t 8)), none⟩,
    ⟨some 11, .p (.loadC 1 false (.t 10)), none⟩,
    ⟨some 5, .p (.mov (.t 11)), none⟩])
  (.reg [⟨some 12, .p (.mov (.t 3)), none⟩,
    ⟨some 13, .p (.mov (.t 5)), none⟩,
    ⟨some 14, .p (.bin .add (.t 12) (.t 13)), none⟩,
    ⟨some 3, .p (.mov (.t 14)), none⟩])))
  (.reg [⟨some 15, .p (.bin .add (.t 8) (.c (.int .i64 1))), none⟩,
    ⟨some 8, .p (.mov (.t 15)), none⟩]))))
def g118_rut_sum_c : ACode := (.seq (.reg [⟨some 2, .p (.mov (.c (.int .i64 0))), none⟩])
  (.seq (.reg [⟨some 3, .p (.mov (.c (.int .i64 0))), none⟩])
  (.seq (.seq (.reg [⟨some 6, .p (.mov (.t 0)), none⟩,
    ⟨some 7, .p (.len (.t 6)), none⟩,
    ⟨some 8, .p (.mov (.c (.int .i64 0))), none⟩])
  (.block 0 (.loop g118_rut_sum_l0)))
  (.seq (.reg [⟨some 16, .p (.mov (.t 3)), none⟩,
    ⟨some 2, .p (.mov (.t 16)), none⟩])
  .ret))))
def g118_rut_sum : AFn := ⟨g118_rut_sum_c, [.t 2], 1⟩

/-- macadam/drain.isDitch -/
def g119_drain_isDitch_c : ACode := (.seq (.reg [⟨some 2, .p (.boxL 2 (.t 0)), none⟩,
    ⟨some 4, .p (.mov (.c (.bool false))), none⟩])
  (.seq (.reg [⟨some 5, .p (.mov (.t 1)), none⟩,
    ⟨some 6, .p (.lad 2 0), none⟩,
    ⟨some 7, .p (.loadL 2 1 false (some (.t 6))), none⟩,
    ⟨some 8, .p (.len (.t 7)), none⟩,
    ⟨some 9, .p (.bin .sub (.t 8) (.c (.int .i64 1))), none⟩,
    ⟨some 10, .calli (.f 80) [.t 5, .c (.int .i64 0), .t 9], none⟩,
    ⟨some 4, .p (.mov (.t 10)), none⟩])
  .ret))
def g119_drain_isDitch : AFn := ⟨g119_drain_isDitch_c, [.t 4], 2⟩

/-- (macadam/drain.book).opens$1 -/
def g120_drain_book_opens_1_c : ACode := (.seq (.reg [⟨some 2, .p (.boxL 2 (.t 0)), none⟩])
  (.seq (.reg [⟨some 3, .h (.alloc [.nilf]), none⟩])
  (.seq (.frz [2] (.reg [⟨some 4, .p (.mkfn 121 [] [.t 1, .t 2, .t 3]), none⟩,
    ⟨none, .h (.store 1 (.t 3) (.t 4)), none⟩]))
  (.reg [⟨some 5, .h (.load 1 false (.t 3)), none⟩,
    ⟨some 6, .call (.t 5) [.c (.int .i64 0), .c (.int .i64 0)], none⟩]))))
def g120_drain_book_opens_1 : AFn := ⟨g120_drain_book_opens_1_c, [], 2⟩

/-- (macadam/drain.book).opens$1$1 -/
def g121_drain_book_opens_1_1_c : ACode := (.seq (.reg [⟨some 7, .p (.mov (.c (.bool false))), none⟩])
  (.seq (.seq (.reg [⟨some 9, .p (.mov (.t 1)), none⟩,
    ⟨some 10, .p (.faddr 0 (.t 2)), none⟩,
    ⟨some 11, .p (.faddr 0 (.t 10)), none⟩,
    ⟨some 12, .p (.loadC 1 false (.t 11)), none⟩,
    ⟨some 13, .p (.len (.t 12)), none⟩,
    ⟨some 14, .p (.bin .eql (.t 9) (.t 13)), none⟩])
  (.cond (.t 14) (.seq (.reg [⟨some 15, .p (.loadC 1 false (.t 3)), none⟩,
    ⟨some 16, .p (.mov (.t 0)), none⟩,
    ⟨some 17, .call (.t 15) [.t 16], none⟩,
    ⟨some 7, .p (.mov (.t 17)), none⟩])
  .ret) .skip))
  (.seq (.reg [⟨some 18, .p (.faddr 0 (.t 2)), none⟩,
    ⟨some 19, .p (.faddr 0 (.t 18)), none⟩,
    ⟨some 20, .p (.loadC 1 false (.t 19)), none⟩,
    ⟨some 21, .p (.mov (.t 1)), none⟩,
    ⟨some 22, .p (.iaddr none 4 (.t 20) (.t 21)), none⟩,
    ⟨some 23, .p (.faddr 2 (.t 22)), none⟩,
    ⟨some 24, .p (.loadC 1 false (.t 23)), none⟩,
    ⟨some 8, .p (.mov (.t 24)), none⟩])
  (.seq (.seq (.reg [⟨some 25, .p (.mov (.t 8)), none⟩,
    ⟨some 26, .p (.bin .neq (.t 25) (.c (.int .i64 2))), none⟩,
    ⟨some 27, .p (.mov (.t 26)), none⟩,
    ⟨some 28, .h (.load 1 false (.t 4)), (some (27, true))⟩,
    ⟨some 29, .p (.mov (.t 0)), (some (27, true))⟩,
    ⟨some 30, .p (.mov (.t 1)), (some (27, true))⟩,
    ⟨some 31, .p (.bin .add (.t 30) (.c (.int .i64 1))), (some (27, true))⟩,
    ⟨some 32, .call (.t 28) [.t 29, .t 31], (some (27, true))⟩,
    ⟨some 33, .p (.un .not (.t 32)), (some (27, true))⟩,
    ⟨some 34, .p (.pick (.t 27) (.t 33) (.c (.bool false))), none⟩])
  (.cond (.t 34) (.seq (.reg [⟨some 7, .p (.mov (.c (.bool false))), none⟩])
  .ret) .skip))
  (.seq (.reg [⟨some 35, .p (.mov (.t 8)), none⟩,
    ⟨some 36, .p (.bin .eql (.t 35) (.c (.int .i64 0))), none⟩,
    ⟨some 37, .p (.mov (.t 36)), none⟩,
    ⟨some 38, .h (.load 1 false (.t 4)), (some (37, false))⟩,
    ⟨some 39, .p (.mov (.t 0)), (some (37, false))⟩,
    ⟨some 40, .p (.mov (.t 1)), (some (37, false))⟩,
    ⟨some 41, .p (.bin .shl (.c (.int .i64 1)) (.t 40)), (some (37, false))⟩,
    ⟨some 42, .p (.bin .or (.t 39) (.t 41)), (some (37, false))⟩,
    ⟨some 43, .p (.mov (.t 1)), (some (37, false))⟩,
    ⟨some 44, .p (.bin .add (.t 43) (.c (.int .i64 1))), (some (37, false))⟩,
    ⟨some 45, .call (.t 38) [.t 42, .t 44], (some (37, false))⟩,
    ⟨some 46, .p (.pick (.t 37) (.c (.bool true)) (.t 45)), none⟩,
    ⟨some 7, .p (.mov (.t 46)), none⟩])
  .ret)))))
def g121_drain_book_opens_1_1 : AFn := ⟨g121_drain_book_opens_1_1_c, [.t 7], 5⟩

/-- (macadam/drain.book).right -/
def g122_drain_book_right_l0 : ACode := (.seq (.reg [⟨some 25, .p (.bin .lss (.t 24) (.t 23)), none⟩])
  (.seq (.cond (.t 25) .skip (.exit 2))
  (.seq (.block 3 (.seq (.reg [⟨some 26, .p (.iaddr none 4 (.t 22) (.t 24)), none⟩,
    ⟨some 27, .p (.loadC 4 true (.t 26)), none⟩,
    ⟨some 9, .p (.allocL 9 [.int .i64 0, .int .i64 0, .int .i64 0, .int .i64 0]), none⟩,
    ⟨none, .p (.storeL 9 4 none (.t 27)), none⟩])
  (.seq (.reg [⟨some 28, .p (.lad 9 2), none⟩,
    ⟨some 29, .p (.loadL 9 1 false (some (.t 28))), none⟩,
    ⟨some 30, .p (.mov (.t 7)), none⟩,
    ⟨some 31, .p (.ladi 5 4 1 (.t 30)), none⟩,
    ⟨some 32, .p (.loadL 5 1 false (some (.t 31))), none⟩,
    ⟨some 33, .p (.bin .sub (.t 29) (.t 32)), none⟩,
    ⟨some 34, .p (.lad 9 3), none⟩,
    ⟨some 35, .p (.loadL 9 1 false (some (.t 34))), none⟩,
    ⟨some 36, .p (.un .neg (.t 35)), none⟩,
    ⟨some 37, .p (.lad 9 3), none⟩,
    ⟨some 38, .p (.loadL 9 1 false (some (.t 37))), none⟩,
    ⟨some 39, .calli (.f 80) [.t 33, .t 36, .t 38], none⟩,
    ⟨some 40, .p (.un .not (.t 39)), none⟩])
  (.cond (.t 40) (.seq (.reg [⟨some 6, .p (.mov (.c (.bool false))), none⟩])
  .ret) .skip))))
  (.reg [⟨some 41, .p (.bin .add (.t 24) (.c (.int .i64 1))), none⟩,
    ⟨some 24, .p (.mov (.t 41)), none⟩]))))
def g122_drain_book_right_l1 : ACode := (.seq (.reg [⟨some 15, .p (.bin .lss (.t 14) (.t 13)), none⟩])
  (.seq (.cond (.t 15) .skip (.exit 0))
  (.seq (.block 1 (.seq (.reg [⟨some 16, .p (.mov (.t 14)), none⟩,
    ⟨some 7, .p (.mov (.t 16)), none⟩])
  (.seq (.reg [⟨some 17, .p (.lad 3 3), none⟩,
    ⟨some 18, .p (.loadL 3 1 false (some (.t 17))), none⟩,
    ⟨some 19, .p (.mov (.t 7)), none⟩,
    ⟨some 20, .p (.mov (.t 1)), none⟩,
    ⟨some 21, .p (.build [.int .i64 0, .int .i64 0] [(0, 1, .t 19), (1, 1, .t 20)]), none⟩,
    ⟨some 22, .h (.lookup 2 (.sl [] .exact) (.t 18) (.t 21)), none⟩,
    ⟨some 23, .p (.len (.t 22)), none⟩,
    ⟨some 24, .p (.mov (.c (.int .i64 0))), none⟩])
  (.block 2 (.loop g122_drain_book_right_l0)))))
  (.reg [⟨some 42, .p (.bin .add (.t 14) (.c (.int .i64 1))), none⟩,
    ⟨some 14, .p (.mov (.t 42)), none⟩]))))
def g122_drain_book_right_c : ACode := (.seq (.reg [⟨some 3, .p (.boxL 3 (.t 0)), none⟩,
    ⟨some 5, .p (.boxL 5 (.t 2)), none⟩,
    ⟨some 6, .p (.mov (.c (.bool false))), none⟩])
  (.seq (.seq (.reg [⟨some 10, .p (.lad 3 0), none⟩,
    ⟨some 11, .p (.faddr 0 (.t 10)), none⟩,
    ⟨some 12, .p (.loadL 3 1 false (some (.t 11))), none⟩,
    ⟨some 13, .p (.len (.t 12)), none⟩,
    ⟨some 14, .p (.mov (.c (.int .i64 0))), none⟩])
  (.block 0 (.loop g122_drain_book_right_l1)))
  (.seq (.reg [⟨some 6, .p (.mov (.c (.bool true))), none⟩])
  .ret)))
def g122_drain_book_right : AFn := ⟨g122_drain_book_right_c, [.t 6], 3⟩

/-- (macadam/drain.book).flows -/
def g123_drain_book_flows_l0 : ACode := (.seq (.reg [⟨some 32, .p (.bin .lss (.t 31) (.t 30)), none⟩])
  (.seq (.cond (.t 32) .skip (.exit 0))
  (.seq (.block 1 (.seq (.reg [⟨some 33, .p (.mov (.t 31)), none⟩,
    ⟨some 34, .p (.iaddr none 4 (.t 29) (.t 31)), none⟩,
    ⟨some 35, .p (.loadC 4 true (.t 34)), none⟩,
    ⟨some 15, .p (.allocL 15 [.int .i64 0, .int .i64 0, .int .i64 0, .int .i64 0]), none⟩,
    ⟨some 14, .p (.mov (.t 33)), none⟩,
    ⟨none, .p (.storeL 15 4 none (.t 35)), none⟩])
  (.seq (.reg [⟨some 36, .p (.mov (.t 2)), none⟩,
    ⟨some 37, .p (.mov (.t 14)), none⟩,
    ⟨some 38, .p (.bin .shr (.t 36) (.t 37)), none⟩,
    ⟨some 39, .p (.bin .and (.t 38) (.c (.int .i64 1))), none⟩,
    ⟨some 16, .p (.mov (.t 39)), none⟩])
  (.seq (.seq (.reg [⟨some 40, .p (.lad 9 0), none⟩,
    ⟨some 41, .p (.loadL 9 1 false (some (.t 40))), none⟩,
    ⟨some 42, .p (.mov (.t 14)), none⟩,
    ⟨some 43, .calli (.t 41) [.t 42], none⟩])
  (.cond (.t 43) (.reg [⟨some 16, .p (.mov (.c (.int .i64 1))), none⟩]) .skip))
  (.seq (.reg [⟨some 44, .p (.mov (.t 14)), none⟩,
    ⟨some 45, .p (.ladi 6 4 1 (.t 44)), none⟩,
    ⟨some 46, .p (.loadL 6 1 false (some (.t 45))), none⟩,
    ⟨some 47, .p (.mov (.t 3)), none⟩,
    ⟨some 48, .p (.bin .add (.t 46) (.t 47)), none⟩,
    ⟨some 49, .p (.mov (.t 14)), none⟩,
    ⟨some 50, .p (.ladi 13 4 1 (.t 49)), none⟩,
    ⟨some 51, .p (.loadL 13 1 false (some (.t 50))), none⟩,
    ⟨some 52, .p (.bin .add (.t 48) (.t 51)), none⟩,
    ⟨some 17, .p (.mov (.t 52)), none⟩])
  (.seq (.reg [⟨some 53, .p (.mov (.t 16)), none⟩,
    ⟨some 54, .p (.iaddr (some 2) 1 (.g 6) (.t 53)), none⟩,
    ⟨some 55, .p (.loadC 1 false (.t 54)), none⟩,
    ⟨some 56, .p (.loadL 15 4 true none), none⟩,
    ⟨some 57, .p (.mov (.t 17)), none⟩,
    ⟨some 58, .calli (.t 55) [.t 56, .t 57], none⟩,
    ⟨some 18, .p (.mov (.t 58)), none⟩])
  (.seq (.seq (.reg [⟨some 59, .p (.lad 15 3), none⟩,
    ⟨some 60, .p (.loadL 15 1 false (some (.t 59))), none⟩,
    ⟨some 61, .p (.bin .neq (.t 60) (.c (.int .i64 (-1)))), none⟩])
  (.cond (.t 61) (.reg [⟨some 62, .p (.lad 15 3), none⟩,
    ⟨some 63, .p (.loadL 15 1 false (some (.t 62))), none⟩,
    ⟨some 64, .p (.ladi 13 4 1 (.t 63)), none⟩,
    ⟨some 65, .p (.loadL 13 1 false (some (.t 64))), none⟩,
    ⟨some 66, .p (.mov (.t 18)), none⟩,
    ⟨some 67, .p (.bin .add (.t 65) (.t 66)), none⟩,
    ⟨some 68, .p (.ladi 13 4 1 (.t 63)), none⟩,
    ⟨none, .p (.storeL 13 1 (some (.t 68)) (.t 67)), none⟩]) .skip))
  (.seq (.seq (.reg [⟨some 69, .p (.mov (.t 17)), none⟩,
    ⟨some 70, .p (.mov (.t 18)), none⟩,
    ⟨some 71, .p (.bin .sub (.t 69) (.t 70)), none⟩,
    ⟨some 17, .p (.mov (.t 71)), none⟩])
  (.seq (.reg [⟨some 72, .p (.mov (.t 17)), none⟩,
    ⟨some 73, .p (.lad 15 0), none⟩,
    ⟨some 74, .p (.loadL 15 1 false (some (.t 73))), none⟩,
    ⟨some 75, .p (.bin .gtr (.t 72) (.t 74)), none⟩])
  (.cond (.t 75) (.reg [⟨some 76, .p (.mov (.t 12)), none⟩,
    ⟨some 77, .p (.mov (.t 14)), none⟩,
    ⟨some 78, .p (.bin .shl (.c (.int .i64 1)) (.t 77)), none⟩,
    ⟨some 79, .p (.bin .or (.t 76) (.t 78)), none⟩,
    ⟨some 12, .p (.mov (.t 79)), none⟩]) .skip)))
  (.reg [⟨some 80, .p (.mov (.t 14)), none⟩,
    ⟨some 81, .p (.mov (.t 17)), none⟩,
    ⟨some 82, .p (.lad 15 0), none⟩,
    ⟨some 83, .p (.loadL 15 1 false (some (.t 82))), none⟩,
    ⟨some 84, .p (.bslice 1 [.int .i64 0] 1 [(0, .t 83)]), none⟩,
    ⟨some 85, .calli (.f 81) [.t 81, .t 84], none⟩,
    ⟨some 86, .p (.ladi 6 4 1 (.t 80)), none⟩,
    ⟨none, .p (.storeL 6 1 (some (.t 86)) (.t 85)), none⟩])))))))))
  (.reg [⟨some 87, .p (.bin .add (.t 31) (.c (.int .i64 1))), none⟩,
    ⟨some 31, .p (.mov (.t 87)), none⟩]))))
def g123_drain_book_flows_c : ACode := (.seq (.reg [⟨some 5, .p (.boxL 5 (.t 0)), none⟩,
    ⟨some 6, .p (.boxL 6 (.t 1)), none⟩,
    ⟨some 9, .p (.boxL 9 (.t 4)), none⟩,
    ⟨some 10, .p (.allocL 10 [.int .i64 0, .int .i64 0, .int .i64 0, .int .i64 0]), none⟩,
    ⟨some 11, .p (.mov (.c (.int .i64 0))), none⟩])
  (.seq (.seq (.reg [⟨some 19, .p (.loadL 6 4 true none), none⟩,
    ⟨some 20, .calli (.f 106) [], none⟩,
    ⟨some 21, .p (.eqn (some 4) false (.t 19) (.t 20)), none⟩,
    ⟨some 22, .p (.mov (.t 21)), none⟩,
    ⟨some 23, .p (.mov (.t 3)), (some (22, true))⟩,
    ⟨some 24, .p (.bin .eql (.t 23) (.c (.int .i64 0))), (some (22, true))⟩,
    ⟨some 25, .p (.pick (.t 22) (.t 24) (.c (.bool false))), none⟩])
  (.cond (.t 25) (.seq (.reg [⟨some 26, .calli (.f 106) [], none⟩,
    ⟨none, .p (.storeL 10 4 none (.t 26)), none⟩,
    ⟨some 11, .p (.mov (.c (.int .i64 0))), none⟩])
  .ret) .skip))
  (.seq (.reg [⟨some 12, .p (.mov (.c (.int .i64 0))), none⟩])
  (.seq (.reg [⟨some 13, .p (.allocL 13 [.int .i64 0, .int .i64 0, .int .i64 0, .int .i64 0]), none⟩])
  (.seq (.seq (.reg [⟨some 27, .p (.lad 5 0), none⟩,
    ⟨some 28, .p (.faddr 0 (.t 27)), none⟩,
    ⟨some 29, .p (.loadL 5 1 false (some (.t 28))), none⟩,
    ⟨some 30, .p (.len (.t 29)), none⟩,
    ⟨some 31, .p (.mov (.c (.int .i64 0))), none⟩])
  (.block 0 (.loop g123_drain_book_flows_l0)))
  (.seq (.reg [⟨some 88, .p (.loadL 6 4 true none), none⟩,
    ⟨some 89, .p (.mov (.t 12)), none⟩,
    ⟨none, .p (.storeL 10 4 none (.t 88)), none⟩,
    ⟨some 11, .p (.mov (.t 89)), none⟩])
  .ret))))))
def g123_drain_book_flows : AFn := ⟨g123_drain_book_flows_c, [.cellL 10 4 true, .t 11], 5⟩

/-- macadam/drain.none -/
def g124_drain_none_c : ACode := (.seq (.reg [⟨some 0, .p (.allocL 0 [.nilf]), none⟩])
  (.seq (.reg [⟨some 1, .p (.build [.nilf] [(0, 1, .f 127)]), none⟩,
    ⟨none, .p (.storeL 0 1 none (.t 1)), none⟩])
  .ret))
def g124_drain_none : AFn := ⟨g124_drain_none_c, [.cellL 0 1 true], 0⟩

/-- macadam/stone.isHeap -/
def g125_stone_isHeap_c : ACode := (.seq (.reg [⟨some 2, .p (.boxL 2 (.t 0)), none⟩,
    ⟨some 4, .p (.mov (.c (.bool false))), none⟩])
  (.seq (.reg [⟨some 5, .p (.mov (.t 1)), none⟩,
    ⟨some 6, .p (.lad 2 0), none⟩,
    ⟨some 7, .p (.loadL 2 1 false (some (.t 6))), none⟩,
    ⟨some 8, .p (.len (.t 7)), none⟩,
    ⟨some 9, .p (.bin .sub (.t 8) (.c (.int .i64 1))), none⟩,
    ⟨some 10, .calli (.f 86) [.t 5, .c (.int .i64 0), .t 9], none⟩,
    ⟨some 4, .p (.mov (.t 10)), none⟩])
  .ret))
def g125_stone_isHeap : AFn := ⟨g125_stone_isHeap_c, [.t 4], 2⟩

/-- (macadam/stone.book).more -/
def g126_stone_book_more_l0 : ACode := (.seq (.reg [⟨some 37, .p (.bin .lss (.t 36) (.c (.int .i64 2))), none⟩])
  (.seq (.cond (.t 37) .skip (.exit 2))
  (.seq (.block 3 (.seq (.reg [⟨some 38, .p (.index 2 1 false (.t 35) (.t 36)), none⟩,
    ⟨some 13, .p (.mov (.t 38)), none⟩])
  (.reg [⟨some 39, .p (.mov (.t 9)), none⟩,
    ⟨some 40, .p (.mov (.t 13)), none⟩,
    ⟨some 41, .p (.lad 4 0), none⟩,
    ⟨some 42, .p (.faddr 1 (.t 41)), none⟩,
    ⟨some 43, .p (.loadL 4 1 false (some (.t 42))), none⟩,
    ⟨some 44, .p (.mov (.t 10)), none⟩,
    ⟨some 45, .p (.iaddr none 4 (.t 43) (.t 44)), none⟩,
    ⟨some 46, .p (.loadC 4 true (.t 45)), none⟩,
    ⟨some 47, .p (.mov (.t 2)), none⟩,
    ⟨some 48, .p (.mov (.t 10)), none⟩,
    ⟨some 49, .p (.ladi 5 5 1 (.t 48)), none⟩,
    ⟨some 50, .p (.loadL 5 1 false (some (.t 49))), none⟩,
    ⟨some 51, .calli (.t 40) [.t 46, .t 47, .t 50], none⟩,
    ⟨some 52, .p (.bslice 1 [.int .i64 0] 1 [(0, .t 51)]), none⟩,
    ⟨some 53, .h (.append 1 8 (.t 39) (.t 52)), none⟩,
    ⟨some 9, .p (.mov (.t 53)), none⟩])))
  (.reg [⟨some 54, .p (.bin .add (.t 36) (.c (.int .i64 1))), none⟩,
    ⟨some 36, .p (.mov (.t 54)), none⟩]))))
def g126_stone_book_more_l1 : ACode := (.seq (.reg [⟨some 19, .p (.bin .lss (.t 18) (.t 17)), none⟩])
  (.seq (.cond (.t 19) .skip (.exit 0))
  (.seq (.block 1 (.seq (.reg [⟨some 20, .p (.mov (.t 18)), none⟩,
    ⟨some 10, .p (.mov (.t 20)), none⟩])
  (.seq (.seq (.reg [⟨some 21, .p (.mov (.t 2)), none⟩,
    ⟨some 22, .p (.mov (.t 10)), none⟩,
    ⟨some 23, .p (.bin .add (.t 22) (.c (.int .i64 1))), none⟩,
    ⟨some 24, .p (.build [.int .i64 0, .int .i64 0] [(0, 1, .t 21), (1, 1, .t 23)]), none⟩,
    ⟨some 11, .p (.allocL 11 [.int .i64 0, .int .i64 0]), none⟩,
    ⟨none, .p (.storeL 11 2 none (.t 24)), none⟩])
  (.seq (.reg [⟨some 25, .p (.loadL 11 2 true none), none⟩,
    ⟨some 26, .p (.loadC 2 true (.g 5)), none⟩,
    ⟨some 27, .p (.eqn (some 2) false (.t 25) (.t 26)), none⟩,
    ⟨some 28, .p (.mov (.t 27)), none⟩,
    ⟨some 29, .p (.lad 4 7), (some (28, false))⟩,
    ⟨some 30, .p (.loadL 4 1 false (some (.t 29))), (some (28, false))⟩,
    ⟨some 31, .p (.loadL 11 2 true none), (some (28, false))⟩,
    ⟨some 32, .p (.lookupV 2 (.bool false) (.t 30) (.t 31)), (some (28, false))⟩,
    ⟨some 33, .p (.un .not (.t 32)), (some (28, false))⟩,
    ⟨some 34, .p (.pick (.t 28) (.c (.bool true)) (.t 33)), none⟩])
  (.cond (.t 34) (.exit 1) .skip)))
  (.seq (.reg [⟨some 35, .p (.loadC 2 true (.g 7)), none⟩,
    ⟨some 36, .p (.mov (.c (.int .i64 0))), none⟩])
  (.block 2 (.loop g126_stone_book_more_l0))))))
  (.reg [⟨some 55, .p (.bin .add (.t 18) (.c (.int .i64 1))), none⟩,
    ⟨some 18, .p (.mov (.t 55)), none⟩]))))
def g126_stone_book_more_c : ACode := (.seq (.reg [⟨some 4, .p (.boxL 4 (.t 0)), none⟩,
    ⟨some 5, .p (.boxL 5 (.t 1)), none⟩,
    ⟨some 8, .p (.mov (.c (.int .i64 0))), none⟩])
  (.seq (.seq (.reg [⟨some 14, .p (.loadL 5 5 true none), none⟩,
    ⟨some 15, .calli (.f 115) [], none⟩,
    ⟨some 16, .p (.eqn (some 5) false (.t 14) (.t 15)), none⟩])
  (.cond (.t 16) (.seq (.reg [⟨some 8, .p (.mov (.c (.int .i64 0))), none⟩])
  .ret) .skip))
  (.seq (.reg [⟨some 9, .p (.mov (.c (.sl [] .exact))), none⟩])
  (.seq (.seq (.reg [⟨some 17, .p (.mov (.t 3)), none⟩,
    ⟨some 18, .p (.mov (.c (.int .i64 0))), none⟩])
  (.block 0 (.loop g126_stone_book_more_l1)))
  (.seq (.reg [⟨some 56, .p (.mov (.t 9)), none⟩,
    ⟨some 57, .calli (.f 128) [.t 56], none⟩,
    ⟨some 8, .p (.mov (.t 57)), none⟩])
  .ret)))))
def g126_stone_book_more : AFn := ⟨g126_stone_book_more_c, [.t 8], 4⟩

/-- macadam/drain.none$1 -/
def g127_drain_none_1_c : ACode := (.seq (.reg [⟨some 2, .p (.mov (.c (.bool false))), none⟩])
  (.seq (.reg [⟨some 2, .p (.mov (.c (.bool false))), none⟩])
  .ret))
def g127_drain_none_1 : AFn := ⟨g127_drain_none_1_c, [.t 2], 1⟩

/-- macadam/stone.sum[int] -/
def g128_stone_sum_l0 : ACode := (.seq (.reg [⟨some 9, .p (.bin .lss (.t 8) (.t 7)), none⟩])
  (.seq (.cond (.t 9) .skip (.exit 0))
  (.seq (.block 1 (.seq (.reg [⟨some 10, .p (.iaddr none 1 (.t 6) (.t 8)), none⟩,
    ⟨some 11, .p (.loadC 1 false (.t 10)), none⟩,
    ⟨some 5, .p (.mov (.t 11)), none⟩])
  (.reg [⟨some 12, .p (.mov (.t 3)), none⟩,
    ⟨some 13, .p (.mov (.t 5)), none⟩,
    ⟨some 14, .p (.bin .add (.t 12) (.t 13)), none⟩,
    ⟨some 3, .p (.mov (.t 14)), none⟩])))
  (.reg [⟨some 15, .p (.bin .add (.t 8) (.c (.int .i64 1))), none⟩,
    ⟨some 8, .p (.mov (.t 15)), none⟩]))))
def g128_stone_sum_c : ACode := (.seq (.reg [⟨some 2, .p (.mov (.c (.int .i64 0))), none⟩])
  (.seq (.reg [⟨some 3, .p (.mov (.c (.int .i64 0))), none⟩])
  (.seq (.seq (.reg [⟨some 6, .p (.mov (.t 0)), none⟩,
    ⟨some 7, .p (.len (.t 6)), none⟩,
    ⟨some 8, .p (.mov (.c (.int .i64 0))), none⟩])
  (.block 0 (.loop g128_stone_sum_l0)))
  (.seq (.reg [⟨some 16, .p (.mov (.t 3)), none⟩,
    ⟨some 2, .p (.mov (.t 16)), none⟩])
  .ret))))
def g128_stone_sum : AFn := ⟨g128_stone_sum_c, [.t 2], 1⟩

/-- (macadam/rut.book).may -/
def g144_rut_book_may_c : ACode := (.seq (.reg [⟨some 3, .p (.boxL 3 (.t 0)), none⟩,
    ⟨some 6, .p (.mov (.c (.bool false))), none⟩])
  (.seq (.reg [⟨some 7, .calli (.f 96) [], none⟩,
    ⟨some 8, .p (.field 0 1 false (.t 7)), none⟩,
    ⟨some 9, .p (.loadL 3 13 true none), none⟩,
    ⟨some 10, .p (.mov (.t 1)), none⟩,
    ⟨some 11, .p (.mov (.t 2)), none⟩,
    ⟨some 12, .calli (.f 49) [.t 9, .t 10, .t 11], none⟩,
    ⟨some 13, .calli (.t 8) [.t 12], none⟩,
    ⟨some 14, .p (.lad 3 0), none⟩,
    ⟨some 15, .p (.faddr 10 (.t 14)), none⟩,
    ⟨some 16, .p (.loadL 3 1 false (some (.t 15))), none⟩,
    ⟨some 17, .p (.bin .gtr (.t 13) (.t 16)), none⟩,
    ⟨some 6, .p (.mov (.t 17)), none⟩])
  .ret))
def g144_rut_book_may : AFn := ⟨g144_rut_book_may_c, [.t 6], 3⟩

/-- (macadam/claim.votes).each -/
def g145_claim_votes_each_c : ACode := (.seq (.reg [⟨some 1, .p (.boxL 1 (.t 0)), none⟩,
    ⟨some 2, .p (.mov (.c (.bool false))), none⟩])
  (.seq (.reg [⟨some 3, .p (.lad 1 0), none⟩,
    ⟨some 4, .p (.loadL 1 1 false (some (.t 3))), none⟩,
    ⟨some 5, .p (.lad 1 1), none⟩,
    ⟨some 6, .p (.loadL 1 1 false (some (.t 5))), none⟩,
    ⟨some 7, .p (.bin .eql (.t 4) (.t 6)), none⟩,
    ⟨some 2, .p (.mov (.t 7)), none⟩])
  .ret))
def g145_claim_votes_each : AFn := ⟨g145_claim_votes_each_c, [.t 2], 1⟩

/-- (macadam/drain.ditch).blocked -/
def g146_drain_ditch_blocked_c : ACode := (.seq (.reg [⟨some 2, .p (.boxL 2 (.t 0)), none⟩,
    ⟨some 4, .p (.mov (.c (.int .i64 0))), none⟩])
  (.seq (.reg [⟨some 4, .p (.mov (.c (.int .i64 0))), none⟩])
  .ret))
def g146_drain_ditch_blocked : AFn := ⟨g146_drain_ditch_blocked_c, [.t 4], 2⟩

/-- (macadam/stone.move).coming -/
def g147_stone_move_coming_c : ACode := (.seq (.reg [⟨some 3, .p (.boxL 3 (.t 0)), none⟩,
    ⟨some 6, .p (.mov (.c (.int .i64 0))), none⟩])
  (.seq (.seq (.reg [⟨some 7, .p (.lad 3 0), none⟩,
    ⟨some 8, .p (.loadL 3 1 false (some (.t 7))), none⟩,
    ⟨some 9, .p (.mov (.t 1)), none⟩,
    ⟨some 10, .p (.bin .eql (.t 8) (.t 9)), none⟩])
  (.cond (.t 10) (.seq (.reg [⟨some 11, .p (.mov (.t 2)), none⟩,
    ⟨some 12, .p (.un .neg (.t 11)), none⟩,
    ⟨some 6, .p (.mov (.t 12)), none⟩])
  .ret) .skip))
  (.seq (.reg [⟨some 6, .p (.mov (.c (.int .i64 0))), none⟩])
  .ret)))
def g147_stone_move_coming : AFn := ⟨g147_stone_move_coming_c, [.t 6], 3⟩

/-- (macadam/claim.votes).some -/
def g149_claim_votes_some_c : ACode := (.seq (.reg [⟨some 1, .p (.boxL 1 (.t 0)), none⟩,
    ⟨some 2, .p (.mov (.c (.bool false))), none⟩])
  (.seq (.reg [⟨some 3, .p (.lad 1 0), none⟩,
    ⟨some 4, .p (.loadL 1 1 false (some (.t 3))), none⟩,
    ⟨some 5, .p (.bin .gtr (.t 4) (.c (.int .i64 0))), none⟩,
    ⟨some 2, .p (.mov (.t 5)), none⟩])
  .ret))
def g149_claim_votes_some : AFn := ⟨g149_claim_votes_some_c, [.t 2], 1⟩

/-- (macadam/rut.book).must -/
def g150_rut_book_must_c : ACode := (.seq (.reg [⟨some 3, .p (.boxL 3 (.t 0)), none⟩,
    ⟨some 6, .p (.mov (.c (.bool false))), none⟩])
  (.seq (.reg [⟨some 7, .calli (.f 95) [], none⟩,
    ⟨some 8, .p (.field 0 1 false (.t 7)), none⟩,
    ⟨some 9, .p (.loadL 3 13 true none), none⟩,
    ⟨some 10, .p (.mov (.t 1)), none⟩,
    ⟨some 11, .p (.mov (.t 2)), none⟩,
    ⟨some 12, .calli (.f 49) [.t 9, .t 10, .t 11], none⟩,
    ⟨some 13, .calli (.t 8) [.t 12], none⟩,
    ⟨some 14, .p (.lad 3 0), none⟩,
    ⟨some 15, .p (.faddr 10 (.t 14)), none⟩,
    ⟨some 16, .p (.loadL 3 1 false (some (.t 15))), none⟩,
    ⟨some 17, .p (.bin .gtr (.t 13) (.t 16)), none⟩,
    ⟨some 6, .p (.mov (.t 17)), none⟩])
  .ret))
def g150_rut_book_must : AFn := ⟨g150_rut_book_must_c, [.t 6], 3⟩

/-- (macadam/drain.ditch).open -/
def g151_drain_ditch_open_c : ACode := (.seq (.reg [⟨some 2, .p (.boxL 2 (.t 0)), none⟩,
    ⟨some 4, .p (.mov (.c (.int .i64 0))), none⟩])
  (.seq (.reg [⟨some 5, .p (.mov (.t 1)), none⟩,
    ⟨some 6, .p (.lad 2 1), none⟩,
    ⟨some 7, .p (.loadL 2 1 false (some (.t 6))), none⟩,
    ⟨some 8, .p (.bslice 1 [.int .i64 0] 1 [(0, .t 7)]), none⟩,
    ⟨some 9, .calli (.f 81) [.t 5, .t 8], none⟩,
    ⟨some 4, .p (.mov (.t 9)), none⟩])
  .ret))
def g151_drain_ditch_open : AFn := ⟨g151_drain_ditch_open_c, [.t 4], 2⟩

/-- (macadam/stone.move).going -/
def g152_stone_move_going_c : ACode := (.seq (.reg [⟨some 3, .p (.boxL 3 (.t 0)), none⟩,
    ⟨some 6, .p (.mov (.c (.int .i64 0))), none⟩])
  (.seq (.seq (.reg [⟨some 7, .p (.lad 3 1), none⟩,
    ⟨some 8, .p (.loadL 3 1 false (some (.t 7))), none⟩,
    ⟨some 9, .p (.mov (.t 1)), none⟩,
    ⟨some 10, .p (.bin .eql (.t 8) (.t 9)), none⟩])
  (.cond (.t 10) (.seq (.reg [⟨some 11, .p (.mov (.t 2)), none⟩,
    ⟨some 6, .p (.mov (.t 11)), none⟩])
  .ret) .skip))
  (.seq (.reg [⟨some 6, .p (.mov (.c (.int .i64 0))), none⟩])
  .ret)))
def g152_stone_move_going : AFn := ⟨g152_stone_move_going_c, [.t 6], 3⟩

/-- (macadam/rut.book).deeper -/
def g77_rut_book_deeper_v1_l0 : ACode := (.seq (.reg [⟨some 16, .p (.bin .lss (.t 15) (.t 14)), none⟩])
  (.seq (.cond (.t 16) .skip (.exit 0))
  (.seq (.block 1 (.seq (.reg [⟨some 17, .p (.mov (.t 15)), none⟩,
    ⟨some 12, .p (.mov (.t 17)), none⟩])
  (.seq (.seq (.reg [⟨some 18, .p (.lad 5 11), none⟩,
    ⟨some 19, .p (.loadL 5 1 false (some (.t 18))), none⟩,
    ⟨some 20, .p (.mov (.t 3)), none⟩,
    ⟨some 21, .p (.mov (.t 12)), none⟩,
    ⟨some 22, .p (.build [.int .i64 0, .int .i64 0] [(0, 1, .t 20), (1, 1, .t 21)]), none⟩,
    ⟨some 23, .h (.lookup 2 (.bool false) (.t 19) (.t 22)), none⟩])
  (.cond (.t 23) (.reg [⟨some 10, .p (.mov (.c (.int .i64 0))), none⟩,
    ⟨some 11, .p (.mov (.c (.bool true))), none⟩]) .skip))
  (.reg [⟨some 24, .p (.mov (.t 10)), none⟩,
    ⟨some 25, .p (.loadL 5 13 true none), none⟩,
    ⟨some 26, .p (.mov (.t 12)), none⟩,
    ⟨some 27, .p (.loadL 6 3 true none), none⟩,
    ⟨some 28, .p (.mov (.t 2)), none⟩,
    ⟨some 29, .call (.f 102) [.t 25, .t 26, .t 27, .t 28], none⟩,
    ⟨some 30, .p (.bin .add (.t 24) (.t 29)), none⟩,
    ⟨some 10, .p (.mov (.t 30)), none⟩]))))
  (.reg [⟨some 31, .p (.bin .add (.t 15) (.c (.int .i64 1))), none⟩,
    ⟨some 15, .p (.mov (.t 31)), none⟩]))))
def g77_rut_book_deeper_v1_c : ACode := (.seq (.reg [⟨some 5, .p (.boxL 5 (.t 0)), none⟩,
    ⟨some 6, .p (.boxL 6 (.t 1)), none⟩,
    ⟨some 10, .p (.mov (.c (.int .i64 0))), none⟩,
    ⟨some 11, .p (.mov (.c (.bool false))), none⟩])
  (.seq (.seq (.reg [⟨some 13, .p (.mov (.t 4)), none⟩,
    ⟨some 14, .p (.bin .add (.t 13) (.c (.int .i64 1))), none⟩,
    ⟨some 15, .p (.mov (.c (.int .i64 0))), none⟩])
  (.block 0 (.loop g77_rut_book_deeper_v1_l0)))
  (.seq (.reg [⟨some 32, .p (.mov (.t 10)), none⟩,
    ⟨some 33, .p (.mov (.t 11)), none⟩,
    ⟨some 10, .p (.mov (.t 32)), none⟩,
    ⟨some 11, .p (.mov (.t 33)), none⟩])
  .ret)))
def g77_rut_book_deeper_v1 : AFn := ⟨g77_rut_book_deeper_v1_c, [.t 10, .t 11], 5⟩

end Av
end

section
/- The lowered program as a table. -/
namespace Av
open Go
def tbl : List (Option AFn) := [none, none, none, some g3_macadamtop_TopWeather, some g4_claim_Check, some g5_macadamref00_Amid, some g6_macadamtop_rained06, some g7_macadamtop_single06, some g8_macadamtop_mile06, some g9_rut_Check, some g10_claim_Right, some g11_rut_Right, some g12_claim_Wrong, some g13_rut_Wrong, some g14_macadamref00_Like, some g15_claim_Comes, some g16_rut_Deep, some g17_claim_Rough, some g18_rut_Wears, some g19_claim_Weather, some g20_rut_Frost, some g21_claim_First, some g22_rut_Surely, some g23_macadamref00_Wrap, some g24_claim_Fits, some g25_rut_Fits, some g26_claim_within, some g27_claim_isSpan, some g28_claim_isClock, some g29_drain_Rain, some g30_macadamtop_pond06, some g31_stone_Yards, some g32_macadamtop_heap06, some g33_macadamtop_run06, some g34_claim_Pays, some g35_macadamref00_Just, some g36_macadamref00_Reach, some g37_rut_within, some g38_rut_isSpan, some g39_rut_isMile, some g40_rut_isDay, some g41_rut_isStaff, some g42_claim_opened, some g43_rut_opened, some g44_claim_Wrong_1, some g45_rut_Wrong_1, some g46_claim_stage, some g47_claim_Comes_1, some g48_rut_asked, some g49_rut_book_deep, some g50_claim_Rough_1, some g51_rut_book_told, some g52_rut_Wears_1, some g53_claim_asked, some g54_rut_Frost_1, some g55_claim_book_told, some g56_claim_First_1, some g57_claim_book_late, some g58_rut_first, some g59_drain_asked, some g60_drain_isDay, some g61_drain_book_span, some g62_drain_Rain_1, some g63_stone_asked, some g64_stone_isMove, some g65_stone_book_told, some g66_stone_Yards_1, some g67_macadamref00_Common, some g68_claim_book_blame, some g69_claim_book_owes, some g70_slices_Contains, some g71_claim_book_whole, some g72_rut_book_right, some g73_rut_book_costs, some g74_rut_book_nights, some g75_claim_stage_1, some g76_rut_book_deep_1, some g77_rut_book_deeper, some g78_drain_Check, some g79_drain_opened, some g80_drain_within, some g81_drain_least, some g82_stone_Check, some g83_stone_opened, some g84_stone_some, some g85_stone_book_isTrue, some g86_stone_within, some g87_stone_book_truths, some g88_claim_book_last, some g89_claim_sum, some g90_slices_Index, some g91_claim_book_whole_1, some g92_claim_book_right, some g93_claim_book_whole_1_1, some g94_claim_waiting, some g95_rut_low, some g96_rut_high, some g97_rut_book_costs_1, some g98_rut_book_costs_1_1, some g99_rut_nothing, some g100_rut_book_nights_1, some g101_rut_book_nights_1_1, some g102_rut_book_cost, some g103_drain_isMark, some g104_drain_book_opens, some g105_drain_book_rains, some g106_drain_dry, some g107_stone_isSpan, some g108_stone_isEnd, some g109_stone_isCarter, some g110_stone_some_1, some g111_stone_book_truths_1, some g112_stone_book_right, some g113_stone_book_truths_1_1, some g114_stone_book_first, some g115_stone_nothing, some g116_rut_low_1, some g117_rut_high_1, some g118_rut_sum, some g119_drain_isDitch, some g120_drain_book_opens_1, some g121_drain_book_opens_1_1, some g122_drain_book_right, some g123_drain_book_flows, some g124_drain_none, some g125_stone_isHeap, some g126_stone_book_more, some g127_drain_none_1, some g128_stone_sum, none, none, none, none, none, none, none, none, none, none, none, none, none, none, none, some g144_rut_book_may, some g145_claim_votes_each, some g146_drain_ditch_blocked, some g147_stone_move_coming, none, some g149_claim_votes_some, some g150_rut_book_must, some g151_drain_ditch_open, some g152_stone_move_going]
def tbl2 : List (Nat × AFn) := [(1077, g77_rut_book_deeper_v1)]
def pr : AProg := ⟨fun k => match tbl[k]? with | some x => x | none => tbl2.lookup k, fun
  | 0 => [.fn 149 [] [], .fn 145 [] []]
  | 1 => [.int .i64 (-1), .int .i64 (-1)]
  | 2 => [.int .i64 (-1), .int .i64 (-1)]
  | 3 => [.fn 144 [] [], .fn 150 [] []]
  | 4 => [.int .i64 (-1), .int .i64 (-1)]
  | 5 => [.int .i64 (-1), .int .i64 (-1)]
  | 6 => [.fn 146 [] [], .fn 151 [] []]
  | 7 => [.fn 147 [] [], .fn 152 [] []]
  | _ => []⟩
theorem fn3 : pr.fn 3 = some g3_macadamtop_TopWeather := by rfl
theorem fn4 : pr.fn 4 = some g4_claim_Check := by rfl
theorem fn5 : pr.fn 5 = some g5_macadamref00_Amid := by rfl
theorem fn6 : pr.fn 6 = some g6_macadamtop_rained06 := by rfl
theorem fn7 : pr.fn 7 = some g7_macadamtop_single06 := by rfl
theorem fn8 : pr.fn 8 = some g8_macadamtop_mile06 := by rfl
theorem fn9 : pr.fn 9 = some g9_rut_Check := by rfl
theorem fn10 : pr.fn 10 = some g10_claim_Right := by rfl
theorem fn11 : pr.fn 11 = some g11_rut_Right := by rfl
theorem fn12 : pr.fn 12 = some g12_claim_Wrong := by rfl
theorem fn13 : pr.fn 13 = some g13_rut_Wrong := by rfl
theorem fn14 : pr.fn 14 = some g14_macadamref00_Like := by rfl
theorem fn15 : pr.fn 15 = some g15_claim_Comes := by rfl
theorem fn16 : pr.fn 16 = some g16_rut_Deep := by rfl
theorem fn17 : pr.fn 17 = some g17_claim_Rough := by rfl
theorem fn18 : pr.fn 18 = some g18_rut_Wears := by rfl
theorem fn19 : pr.fn 19 = some g19_claim_Weather := by rfl
theorem fn20 : pr.fn 20 = some g20_rut_Frost := by rfl
theorem fn21 : pr.fn 21 = some g21_claim_First := by rfl
theorem fn22 : pr.fn 22 = some g22_rut_Surely := by rfl
theorem fn23 : pr.fn 23 = some g23_macadamref00_Wrap := by rfl
theorem fn24 : pr.fn 24 = some g24_claim_Fits := by rfl
theorem fn25 : pr.fn 25 = some g25_rut_Fits := by rfl
theorem fn26 : pr.fn 26 = some g26_claim_within := by rfl
theorem fn27 : pr.fn 27 = some g27_claim_isSpan := by rfl
theorem fn28 : pr.fn 28 = some g28_claim_isClock := by rfl
theorem fn29 : pr.fn 29 = some g29_drain_Rain := by rfl
theorem fn30 : pr.fn 30 = some g30_macadamtop_pond06 := by rfl
theorem fn31 : pr.fn 31 = some g31_stone_Yards := by rfl
theorem fn32 : pr.fn 32 = some g32_macadamtop_heap06 := by rfl
theorem fn33 : pr.fn 33 = some g33_macadamtop_run06 := by rfl
theorem fn34 : pr.fn 34 = some g34_claim_Pays := by rfl
theorem fn35 : pr.fn 35 = some g35_macadamref00_Just := by rfl
theorem fn36 : pr.fn 36 = some g36_macadamref00_Reach := by rfl
theorem fn37 : pr.fn 37 = some g37_rut_within := by rfl
theorem fn38 : pr.fn 38 = some g38_rut_isSpan := by rfl
theorem fn39 : pr.fn 39 = some g39_rut_isMile := by rfl
theorem fn40 : pr.fn 40 = some g40_rut_isDay := by rfl
theorem fn41 : pr.fn 41 = some g41_rut_isStaff := by rfl
theorem fn42 : pr.fn 42 = some g42_claim_opened := by rfl
theorem fn43 : pr.fn 43 = some g43_rut_opened := by rfl
theorem fn44 : pr.fn 44 = some g44_claim_Wrong_1 := by rfl
theorem fn45 : pr.fn 45 = some g45_rut_Wrong_1 := by rfl
theorem fn46 : pr.fn 46 = some g46_claim_stage := by rfl
theorem fn47 : pr.fn 47 = some g47_claim_Comes_1 := by rfl
theorem fn48 : pr.fn 48 = some g48_rut_asked := by rfl
theorem fn49 : pr.fn 49 = some g49_rut_book_deep := by rfl
theorem fn50 : pr.fn 50 = some g50_claim_Rough_1 := by rfl
theorem fn51 : pr.fn 51 = some g51_rut_book_told := by rfl
theorem fn52 : pr.fn 52 = some g52_rut_Wears_1 := by rfl
theorem fn53 : pr.fn 53 = some g53_claim_asked := by rfl
theorem fn54 : pr.fn 54 = some g54_rut_Frost_1 := by rfl
theorem fn55 : pr.fn 55 = some g55_claim_book_told := by rfl
theorem fn56 : pr.fn 56 = some g56_claim_First_1 := by rfl
theorem fn57 : pr.fn 57 = some g57_claim_book_late := by rfl
theorem fn58 : pr.fn 58 = some g58_rut_first := by rfl
theorem fn59 : pr.fn 59 = some g59_drain_asked := by rfl
theorem fn60 : pr.fn 60 = some g60_drain_isDay := by rfl
theorem fn61 : pr.fn 61 = some g61_drain_book_span := by rfl
theorem fn62 : pr.fn 62 = some g62_drain_Rain_1 := by rfl
theorem fn63 : pr.fn 63 = some g63_stone_asked := by rfl
theorem fn64 : pr.fn 64 = some g64_stone_isMove := by rfl
theorem fn65 : pr.fn 65 = some g65_stone_book_told := by rfl
theorem fn66 : pr.fn 66 = some g66_stone_Yards_1 := by rfl
theorem fn67 : pr.fn 67 = some g67_macadamref00_Common := by rfl
theorem fn68 : pr.fn 68 = some g68_claim_book_blame := by rfl
theorem fn69 : pr.fn 69 = some g69_claim_book_owes := by rfl
theorem fn70 : pr.fn 70 = some g70_slices_Contains := by rfl
theorem fn71 : pr.fn 71 = some g71_claim_book_whole := by rfl
theorem fn72 : pr.fn 72 = some g72_rut_book_right := by rfl
theorem fn73 : pr.fn 73 = some g73_rut_book_costs := by rfl
theorem fn74 : pr.fn 74 = some g74_rut_book_nights := by rfl
theorem fn75 : pr.fn 75 = some g75_claim_stage_1 := by rfl
theorem fn76 : pr.fn 76 = some g76_rut_book_deep_1 := by rfl
theorem fn77 : pr.fn 77 = some g77_rut_book_deeper := by rfl
theorem fn78 : pr.fn 78 = some g78_drain_Check := by rfl
theorem fn79 : pr.fn 79 = some g79_drain_opened := by rfl
theorem fn80 : pr.fn 80 = some g80_drain_within := by rfl
theorem fn81 : pr.fn 81 = some g81_drain_least := by rfl
theorem fn82 : pr.fn 82 = some g82_stone_Check := by rfl
theorem fn83 : pr.fn 83 = some g83_stone_opened := by rfl
theorem fn84 : pr.fn 84 = some g84_stone_some := by rfl
theorem fn85 : pr.fn 85 = some g85_stone_book_isTrue := by rfl
theorem fn86 : pr.fn 86 = some g86_stone_within := by rfl
theorem fn87 : pr.fn 87 = some g87_stone_book_truths := by rfl
theorem fn88 : pr.fn 88 = some g88_claim_book_last := by rfl
theorem fn89 : pr.fn 89 = some g89_claim_sum := by rfl
theorem fn90 : pr.fn 90 = some g90_slices_Index := by rfl
theorem fn91 : pr.fn 91 = some g91_claim_book_whole_1 := by rfl
theorem fn92 : pr.fn 92 = some g92_claim_book_right := by rfl
theorem fn93 : pr.fn 93 = some g93_claim_book_whole_1_1 := by rfl
theorem fn94 : pr.fn 94 = some g94_claim_waiting := by rfl
theorem fn95 : pr.fn 95 = some g95_rut_low := by rfl
theorem fn96 : pr.fn 96 = some g96_rut_high := by rfl
theorem fn97 : pr.fn 97 = some g97_rut_book_costs_1 := by rfl
theorem fn98 : pr.fn 98 = some g98_rut_book_costs_1_1 := by rfl
theorem fn99 : pr.fn 99 = some g99_rut_nothing := by rfl
theorem fn100 : pr.fn 100 = some g100_rut_book_nights_1 := by rfl
theorem fn101 : pr.fn 101 = some g101_rut_book_nights_1_1 := by rfl
theorem fn102 : pr.fn 102 = some g102_rut_book_cost := by rfl
theorem fn103 : pr.fn 103 = some g103_drain_isMark := by rfl
theorem fn104 : pr.fn 104 = some g104_drain_book_opens := by rfl
theorem fn105 : pr.fn 105 = some g105_drain_book_rains := by rfl
theorem fn106 : pr.fn 106 = some g106_drain_dry := by rfl
theorem fn107 : pr.fn 107 = some g107_stone_isSpan := by rfl
theorem fn108 : pr.fn 108 = some g108_stone_isEnd := by rfl
theorem fn109 : pr.fn 109 = some g109_stone_isCarter := by rfl
theorem fn110 : pr.fn 110 = some g110_stone_some_1 := by rfl
theorem fn111 : pr.fn 111 = some g111_stone_book_truths_1 := by rfl
theorem fn112 : pr.fn 112 = some g112_stone_book_right := by rfl
theorem fn113 : pr.fn 113 = some g113_stone_book_truths_1_1 := by rfl
theorem fn114 : pr.fn 114 = some g114_stone_book_first := by rfl
theorem fn115 : pr.fn 115 = some g115_stone_nothing := by rfl
theorem fn116 : pr.fn 116 = some g116_rut_low_1 := by rfl
theorem fn117 : pr.fn 117 = some g117_rut_high_1 := by rfl
theorem fn118 : pr.fn 118 = some g118_rut_sum := by rfl
theorem fn119 : pr.fn 119 = some g119_drain_isDitch := by rfl
theorem fn120 : pr.fn 120 = some g120_drain_book_opens_1 := by rfl
theorem fn121 : pr.fn 121 = some g121_drain_book_opens_1_1 := by rfl
theorem fn122 : pr.fn 122 = some g122_drain_book_right := by rfl
theorem fn123 : pr.fn 123 = some g123_drain_book_flows := by rfl
theorem fn124 : pr.fn 124 = some g124_drain_none := by rfl
theorem fn125 : pr.fn 125 = some g125_stone_isHeap := by rfl
theorem fn126 : pr.fn 126 = some g126_stone_book_more := by rfl
theorem fn127 : pr.fn 127 = some g127_drain_none_1 := by rfl
theorem fn128 : pr.fn 128 = some g128_stone_sum := by rfl
theorem fn144 : pr.fn 144 = some g144_rut_book_may := by rfl
theorem fn145 : pr.fn 145 = some g145_claim_votes_each := by rfl
theorem fn146 : pr.fn 146 = some g146_drain_ditch_blocked := by rfl
theorem fn147 : pr.fn 147 = some g147_stone_move_coming := by rfl
theorem fn149 : pr.fn 149 = some g149_claim_votes_some := by rfl
theorem fn150 : pr.fn 150 = some g150_rut_book_must := by rfl
theorem fn151 : pr.fn 151 = some g151_drain_ditch_open := by rfl
theorem fn152 : pr.fn 152 = some g152_stone_move_going := by rfl
theorem fn1077 : pr.fn 1077 = some g77_rut_book_deeper_v1 := by rfl
end Av
end
