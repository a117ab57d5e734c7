/- The lowered text, second part: data. -/
import Derived.Test.YtpjhmbfpfbpciaaDoorAvMF
set_option linter.all false
set_option linter.unusedSectionVars false
set_option linter.unusedVariables false
set_option linter.unusedSimpArgs false
set_option linter.unnecessarySimpa false
section
/- The lowered text of the program, printed by a program of this session out of the translation; IrC holds it against the translation. -/
namespace Av
open Go (IntKind BinOp UnOp)
/-- macadam/macadamref03.firsts -/
def g77_macadamref03_firsts_l0 : ACode := (.seq (.seq (.reg [⟨some 55, .p (.mov (.t 11)), none⟩,
    ⟨some 56, .p (.mov (.t 1)), none⟩,
    ⟨some 57, .p (.len (.t 56)), none⟩,
    ⟨some 58, .p (.bin .leq (.t 55) (.t 57)), none⟩])
  (.cond (.t 58) .skip (.exit 2)))
  (.seq (.block 3 (.reg [⟨some 61, .p (.mov (.t 10)), none⟩,
    ⟨some 62, .p (.mov (.t 61)), none⟩,
    ⟨some 63, .p (.loadL 3 6 true none), (some (62, true))⟩,
    ⟨some 64, .p (.loadL 8 2 true none), (some (62, true))⟩,
    ⟨some 65, .p (.mov (.t 2)), (some (62, true))⟩,
    ⟨some 66, .p (.mov (.t 11)), (some (62, true))⟩,
    ⟨some 67, .call (.f 78) [.t 63, .t 64, .t 65, .t 66], (some (62, true))⟩,
    ⟨some 68, .p (.bin .geq (.t 67) (.c (.int .i64 0))), (some (62, true))⟩,
    ⟨some 69, .p (.pick (.t 62) (.t 68) (.c (.bool false))), none⟩,
    ⟨some 10, .p (.mov (.t 69)), none⟩]))
  (.reg [⟨some 59, .p (.mov (.t 11)), none⟩,
    ⟨some 60, .p (.bin .add (.t 59) (.c (.int .i64 1))), none⟩,
    ⟨some 11, .p (.mov (.t 60)), none⟩])))
def g77_macadamref03_firsts_l1 : ACode := (.seq (.seq (.reg [⟨some 26, .p (.mov (.t 9)), none⟩,
    ⟨some 27, .p (.lad 3 0), none⟩,
    ⟨some 28, .p (.loadL 3 1 false (some (.t 27))), none⟩,
    ⟨some 29, .p (.mov (.t 2)), none⟩,
    ⟨some 30, .p (.iaddr none 4 (.t 28) (.t 29)), none⟩,
    ⟨some 31, .p (.faddr 0 (.t 30)), none⟩,
    ⟨some 32, .p (.faddr 1 (.t 31)), none⟩,
    ⟨some 33, .p (.loadC 1 false (.t 32)), none⟩,
    ⟨some 34, .p (.bin .leq (.t 26) (.t 33)), none⟩])
  (.cond (.t 34) .skip (.exit 0)))
  (.seq (.block 1 (.seq (.reg [⟨some 37, .p (.lad 8 0), none⟩,
    ⟨some 38, .p (.loadL 8 1 false (some (.t 37))), none⟩,
    ⟨some 39, .p (.mov (.t 2)), none⟩,
    ⟨some 40, .p (.mov (.t 9)), none⟩,
    ⟨some 41, .p (.iaddr none 1 (.t 38) (.t 39)), none⟩,
    ⟨none, .h (.store 1 (.t 41) (.t 40)), none⟩])
  (.seq (.reg [⟨some 42, .p (.lad 3 0), none⟩,
    ⟨some 43, .p (.loadL 3 1 false (some (.t 42))), none⟩,
    ⟨some 44, .p (.mov (.t 2)), none⟩,
    ⟨some 45, .p (.iaddr none 4 (.t 43) (.t 44)), none⟩,
    ⟨some 46, .p (.faddr 2 (.t 45)), none⟩,
    ⟨some 47, .p (.loadC 2 true (.t 46)), none⟩,
    ⟨some 48, .p (.loadL 3 6 true none), none⟩,
    ⟨some 49, .p (.loadL 8 2 true none), none⟩,
    ⟨some 50, .p (.mov (.t 2)), none⟩,
    ⟨some 51, .p (.mov (.t 1)), none⟩,
    ⟨some 52, .p (.len (.t 51)), none⟩,
    ⟨some 53, .call (.f 78) [.t 48, .t 49, .t 50, .t 52], none⟩,
    ⟨some 54, .calli (.f 39) [.t 47, .t 53], none⟩,
    ⟨some 10, .p (.mov (.t 54)), none⟩])
  (.seq (.seq (.reg [⟨some 11, .p (.mov (.c (.int .i64 0))), none⟩])
  (.block 2 (.loop g77_macadamref03_firsts_l0)))
  (.seq (.reg [⟨some 70, .p (.mov (.t 10)), none⟩])
  (.cond (.t 70) (.reg [⟨some 71, .p (.mov (.t 7)), none⟩,
    ⟨some 72, .p (.mov (.t 9)), none⟩,
    ⟨some 73, .p (.bslice 1 [.int .i64 0] 1 [(0, .t 72)]), none⟩,
    ⟨some 74, .h (.append 1 8 (.t 71) (.t 73)), none⟩,
    ⟨some 7, .p (.mov (.t 74)), none⟩]) .skip))))))
  (.reg [⟨some 35, .p (.mov (.t 9)), none⟩,
    ⟨some 36, .p (.bin .add (.t 35) (.c (.int .i64 1))), none⟩,
    ⟨some 9, .p (.mov (.t 36)), none⟩])))
def g77_macadamref03_firsts_c : ACode := (.seq (.reg [⟨some 3, .p (.boxL 3 (.t 0)), none⟩,
    ⟨some 6, .p (.mov (.c (.sl [] .exact))), none⟩])
  (.seq (.reg [⟨some 12, .p (.bslice 1 [.int .i64 0] 0 []), none⟩,
    ⟨some 7, .p (.mov (.t 12)), none⟩])
  (.seq (.reg [⟨some 13, .p (.lad 3 0), none⟩,
    ⟨some 14, .p (.loadL 3 1 false (some (.t 13))), none⟩,
    ⟨some 15, .p (.len (.t 14)), none⟩,
    ⟨some 16, .h (.mslice 1 [.int .i64 0] (.t 15) (.t 15)), none⟩,
    ⟨some 17, .p (.mov (.t 1)), none⟩,
    ⟨some 18, .p (.build [.sl [] .exact, .sl [] .exact] [(0, 1, .t 16), (1, 1, .t 17)]), none⟩,
    ⟨some 8, .p (.allocL 8 [.sl [] .exact, .sl [] .exact]), none⟩,
    ⟨none, .p (.storeL 8 2 none (.t 18)), none⟩])
  (.seq (.seq (.reg [⟨some 19, .p (.lad 3 0), none⟩,
    ⟨some 20, .p (.loadL 3 1 false (some (.t 19))), none⟩,
    ⟨some 21, .p (.mov (.t 2)), none⟩,
    ⟨some 22, .p (.iaddr none 4 (.t 20) (.t 21)), none⟩,
    ⟨some 23, .p (.faddr 0 (.t 22)), none⟩,
    ⟨some 24, .p (.faddr 0 (.t 23)), none⟩,
    ⟨some 25, .p (.loadC 1 false (.t 24)), none⟩,
    ⟨some 9, .p (.mov (.t 25)), none⟩])
  (.block 0 (.loop g77_macadamref03_firsts_l1)))
  (.seq (.reg [⟨some 75, .p (.mov (.t 7)), none⟩,
    ⟨some 6, .p (.mov (.t 75)), none⟩])
  .ret)))))
def g77_macadamref03_firsts : AFn := ⟨g77_macadamref03_firsts_c, [.t 6], 3⟩

/-- macadam/macadamref03.heap -/
def g78_macadamref03_heap_l0 : ACode := (.seq (.seq (.reg [⟨some 16, .p (.mov (.t 10)), none⟩,
    ⟨some 17, .p (.mov (.t 3)), none⟩,
    ⟨some 18, .p (.bin .lss (.t 16) (.t 17)), none⟩])
  (.cond (.t 18) .skip (.exit 0)))
  (.seq (.block 1 (.seq (.seq (.reg [⟨some 21, .p (.lad 4 1), none⟩,
    ⟨some 22, .p (.loadL 4 1 false (some (.t 21))), none⟩,
    ⟨some 23, .p (.mov (.t 10)), none⟩,
    ⟨some 24, .p (.iaddr none 4 (.t 22) (.t 23)), none⟩,
    ⟨some 25, .p (.faddr 0 (.t 24)), none⟩,
    ⟨some 26, .p (.loadC 1 false (.t 25)), none⟩,
    ⟨some 27, .p (.mov (.t 2)), none⟩,
    ⟨some 28, .p (.bin .eql (.t 26) (.t 27)), none⟩])
  (.cond (.t 28) (.reg [⟨some 29, .p (.mov (.t 9)), none⟩,
    ⟨some 30, .p (.lad 5 1), none⟩,
    ⟨some 31, .p (.loadL 5 1 false (some (.t 30))), none⟩,
    ⟨some 32, .p (.mov (.t 10)), none⟩,
    ⟨some 33, .p (.iaddr none 1 (.t 31) (.t 32)), none⟩,
    ⟨some 34, .p (.loadC 1 false (.t 33)), none⟩,
    ⟨some 35, .p (.bin .sub (.t 29) (.t 34)), none⟩,
    ⟨some 9, .p (.mov (.t 35)), none⟩]) .skip))
  (.seq (.reg [⟨some 36, .p (.lad 4 1), none⟩,
    ⟨some 37, .p (.loadL 4 1 false (some (.t 36))), none⟩,
    ⟨some 38, .p (.mov (.t 10)), none⟩,
    ⟨some 39, .p (.iaddr none 4 (.t 37) (.t 38)), none⟩,
    ⟨some 40, .p (.faddr 1 (.t 39)), none⟩,
    ⟨some 41, .p (.loadC 1 false (.t 40)), none⟩,
    ⟨some 42, .p (.mov (.t 2)), none⟩,
    ⟨some 43, .p (.bin .eql (.t 41) (.t 42)), none⟩])
  (.cond (.t 43) (.reg [⟨some 44, .p (.mov (.t 9)), none⟩,
    ⟨some 45, .p (.lad 5 1), none⟩,
    ⟨some 46, .p (.loadL 5 1 false (some (.t 45))), none⟩,
    ⟨some 47, .p (.mov (.t 10)), none⟩,
    ⟨some 48, .p (.iaddr none 1 (.t 46) (.t 47)), none⟩,
    ⟨some 49, .p (.loadC 1 false (.t 48)), none⟩,
    ⟨some 50, .p (.bin .add (.t 44) (.t 49)), none⟩,
    ⟨some 9, .p (.mov (.t 50)), none⟩]) .skip))))
  (.reg [⟨some 19, .p (.mov (.t 10)), none⟩,
    ⟨some 20, .p (.bin .add (.t 19) (.c (.int .i64 1))), none⟩,
    ⟨some 10, .p (.mov (.t 20)), none⟩])))
def g78_macadamref03_heap_c : ACode := (.seq (.reg [⟨some 4, .p (.boxL 4 (.t 0)), none⟩,
    ⟨some 5, .p (.boxL 5 (.t 1)), none⟩,
    ⟨some 8, .p (.mov (.c (.int .i64 0))), none⟩])
  (.seq (.reg [⟨some 11, .p (.lad 5 0), none⟩,
    ⟨some 12, .p (.loadL 5 1 false (some (.t 11))), none⟩,
    ⟨some 13, .p (.mov (.t 2)), none⟩,
    ⟨some 14, .p (.iaddr none 1 (.t 12) (.t 13)), none⟩,
    ⟨some 15, .h (.load 1 false (.t 14)), none⟩,
    ⟨some 9, .p (.mov (.t 15)), none⟩])
  (.seq (.seq (.reg [⟨some 10, .p (.mov (.c (.int .i64 0))), none⟩])
  (.block 0 (.loop g78_macadamref03_heap_l0)))
  (.seq (.reg [⟨some 51, .p (.mov (.t 9)), none⟩,
    ⟨some 8, .p (.mov (.t 51)), none⟩])
  .ret))))
def g78_macadamref03_heap : AFn := ⟨g78_macadamref03_heap_c, [.t 8], 4⟩

/-- (macadam/stone.book).all -/
def g79_stone_book_all_c : ACode := (.seq (.reg [⟨some 2, .p (.boxL 2 (.t 0)), none⟩,
    ⟨some 3, .p (.boxL 3 (.t 1)), none⟩,
    ⟨some 4, .p (.allocL 4 [.int .i64 0, .int .i64 0]), none⟩])
  (.seq (.frz [2, 3] (.reg [⟨some 5, .p (.loadL 2 8 true none), none⟩,
    ⟨some 6, .p (.mkfn 96 [] [.t 2, .t 3]), none⟩,
    ⟨some 7, .calli (.f 68) [.t 5, .t 6], none⟩,
    ⟨none, .p (.storeL 4 2 none (.t 7)), none⟩]))
  .ret))
def g79_stone_book_all : AFn := ⟨g79_stone_book_all_c, [.cellL 4 2 true], 2⟩

/-- macadam/stone.Laid$1 -/
def g80_stone_Laid_1_c : ACode := (.seq (.reg [⟨some 1, .p (.boxL 1 (.t 0)), none⟩,
    ⟨some 2, .p (.mov (.c (.bool false))), none⟩])
  (.seq (.reg [⟨some 3, .p (.lad 1 1), none⟩,
    ⟨some 4, .p (.loadL 1 1 false (some (.t 3))), none⟩,
    ⟨some 5, .p (.bin .eql (.t 4) (.c (.int .i64 (-1)))), none⟩,
    ⟨some 2, .p (.mov (.t 5)), none⟩])
  .ret))
def g80_stone_Laid_1 : AFn := ⟨g80_stone_Laid_1_c, [.t 2], 1⟩

/-- macadam/stone.Owed$1 -/
def g81_stone_Owed_1_c : ACode := (.seq (.reg [⟨some 2, .p (.boxL 2 (.t 0)), none⟩,
    ⟨some 3, .p (.mov (.c (.bool false))), none⟩])
  (.seq (.reg [⟨some 4, .p (.lad 2 2), none⟩,
    ⟨some 5, .p (.loadL 2 1 false (some (.t 4))), none⟩,
    ⟨some 6, .p (.loadC 1 false (.t 1)), none⟩,
    ⟨some 7, .p (.bin .eql (.t 5) (.t 6)), none⟩,
    ⟨some 3, .p (.mov (.t 7)), none⟩])
  .ret))
def g81_stone_Owed_1 : AFn := ⟨g81_stone_Owed_1_c, [.t 3], 2⟩

/-- (macadam/stone.book).truths -/
def g82_stone_book_truths_c : ACode := (.seq (.reg [⟨some 1, .p (.boxL 1 (.t 0)), none⟩,
    ⟨some 2, .p (.mov (.c .nilf)), none⟩])
  (.seq (.frz [1] (.reg [⟨some 3, .p (.mkfn 97 [] [.t 1]), none⟩,
    ⟨some 2, .p (.mov (.t 3)), none⟩]))
  .ret))
def g82_stone_book_truths : AFn := ⟨g82_stone_book_truths_c, [.t 2], 1⟩

/-- (macadam/stone.book).lied -/
def g83_stone_book_lied_l0 : ACode := (.seq (.reg [⟨some 13, .p (.bin .lss (.t 12) (.t 11)), none⟩])
  (.seq (.cond (.t 13) .skip (.exit 0))
  (.seq (.block 1 (.seq (.reg [⟨some 14, .p (.mov (.t 12)), none⟩,
    ⟨some 15, .p (.iaddr none 4 (.t 10) (.t 12)), none⟩,
    ⟨some 16, .p (.loadC 4 true (.t 15)), none⟩,
    ⟨some 7, .p (.allocL 7 [.int .i64 0, .int .i64 0, .int .i64 0, .int .i64 0]), none⟩,
    ⟨some 6, .p (.mov (.t 14)), none⟩,
    ⟨none, .p (.storeL 7 4 none (.t 16)), none⟩])
  (.seq (.reg [⟨some 17, .p (.lad 7 3), none⟩,
    ⟨some 18, .p (.loadL 7 1 false (some (.t 17))), none⟩,
    ⟨some 19, .p (.mov (.t 6)), none⟩,
    ⟨some 20, .p (.ladi 3 5 1 (.t 19)), none⟩,
    ⟨some 21, .p (.loadL 3 1 false (some (.t 20))), none⟩,
    ⟨some 22, .p (.bin .gtr (.t 18) (.t 21)), none⟩])
  (.cond (.t 22) (.reg [⟨some 23, .p (.mov (.t 5)), none⟩,
    ⟨some 24, .p (.lad 7 2), none⟩,
    ⟨some 25, .p (.loadL 7 1 false (some (.t 24))), none⟩,
    ⟨some 26, .p (.bin .shl (.c (.int .i64 1)) (.t 25)), none⟩,
    ⟨some 27, .p (.bin .or (.t 23) (.t 26)), none⟩,
    ⟨some 5, .p (.mov (.t 27)), none⟩]) .skip))))
  (.reg [⟨some 28, .p (.bin .add (.t 12) (.c (.int .i64 1))), none⟩,
    ⟨some 12, .p (.mov (.t 28)), none⟩]))))
def g83_stone_book_lied_c : ACode := (.seq (.reg [⟨some 2, .p (.boxL 2 (.t 0)), none⟩,
    ⟨some 3, .p (.boxL 3 (.t 1)), none⟩,
    ⟨some 4, .p (.mov (.c (.int .i64 0))), none⟩])
  (.seq (.reg [⟨some 5, .p (.mov (.c (.int .i64 0))), none⟩])
  (.seq (.seq (.reg [⟨some 8, .p (.lad 2 0), none⟩,
    ⟨some 9, .p (.faddr 1 (.t 8)), none⟩,
    ⟨some 10, .p (.loadL 2 1 false (some (.t 9))), none⟩,
    ⟨some 11, .p (.len (.t 10)), none⟩,
    ⟨some 12, .p (.mov (.c (.int .i64 0))), none⟩])
  (.block 0 (.loop g83_stone_book_lied_l0)))
  (.seq (.reg [⟨some 29, .p (.mov (.t 5)), none⟩,
    ⟨some 4, .p (.mov (.t 29)), none⟩])
  .ret))))
def g83_stone_book_lied : AFn := ⟨g83_stone_book_lied_c, [.t 4], 2⟩

/-- macadam/stone.Wrong$1 -/
def g84_stone_Wrong_1_l0 : ACode := (.seq (.seq (.reg [⟨some 33, .p (.mov (.t 10)), none⟩,
    ⟨some 34, .p (.faddr 1 (.t 2)), none⟩,
    ⟨some 35, .p (.loadC 1 false (.t 34)), none⟩,
    ⟨some 36, .p (.len (.t 35)), none⟩,
    ⟨some 37, .p (.bin .lss (.t 33) (.t 36)), none⟩])
  (.cond (.t 37) .skip (.exit 0)))
  (.seq (.block 1 (.seq (.reg [⟨some 41, .h (.load 1 false (.t 3)), none⟩,
    ⟨some 42, .p (.mov (.t 0)), none⟩,
    ⟨some 43, .p (.mov (.t 8)), none⟩,
    ⟨some 44, .p (.mov (.t 8)), none⟩,
    ⟨some 45, .p (.slice 1 (.t 42) none (some (.t 43)) (some (.t 44))), none⟩,
    ⟨some 46, .p (.mov (.t 10)), none⟩,
    ⟨some 47, .p (.bslice 1 [.int .i64 0] 1 [(0, .t 46)]), none⟩,
    ⟨some 48, .h (.append 1 8 (.t 45) (.t 47)), none⟩,
    ⟨some 49, .p (.mov (.t 1)), none⟩,
    ⟨some 50, .call (.t 41) [.t 48, .t 49], none⟩,
    ⟨some 40, .p (.mov (.t 50)), none⟩,
    ⟨some 51, .p (.extract (.t 40) 0), none⟩,
    ⟨some 52, .p (.extract (.t 40) 1), none⟩,
    ⟨some 11, .p (.mov (.t 51)), none⟩,
    ⟨some 12, .p (.mov (.t 52)), none⟩])
  (.seq (.reg [⟨some 53, .p (.mov (.t 12)), none⟩])
  (.cond (.t 53) (.seq (.reg [⟨some 54, .p (.mov (.t 11)), none⟩,
    ⟨some 6, .p (.mov (.t 54)), none⟩,
    ⟨some 7, .p (.mov (.c (.bool true))), none⟩])
  .ret) .skip))))
  (.reg [⟨some 38, .p (.mov (.t 10)), none⟩,
    ⟨some 39, .p (.bin .add (.t 38) (.c (.int .i64 1))), none⟩,
    ⟨some 10, .p (.mov (.t 39)), none⟩])))
def g84_stone_Wrong_1_c : ACode := (.seq (.reg [⟨some 6, .p (.mov (.c (.sl [] .exact))), none⟩,
    ⟨some 7, .p (.mov (.c (.bool false))), none⟩])
  (.seq (.reg [⟨some 13, .p (.mov (.t 0)), none⟩,
    ⟨some 14, .p (.len (.t 13)), none⟩,
    ⟨some 8, .p (.mov (.t 14)), none⟩])
  (.seq (.seq (.reg [⟨some 15, .p (.mov (.t 8)), none⟩,
    ⟨some 16, .p (.mov (.t 1)), none⟩,
    ⟨some 17, .p (.bin .eql (.t 15) (.t 16)), none⟩])
  (.cond (.t 17) (.seq (.reg [⟨some 18, .p (.mov (.t 0)), none⟩,
    ⟨some 19, .p (.loadC 6 true (.t 2)), none⟩,
    ⟨some 20, .p (.mov (.t 0)), none⟩,
    ⟨some 21, .calli (.f 56) [.t 20], none⟩,
    ⟨some 22, .calli (.f 55) [.t 19, .t 21], none⟩,
    ⟨some 23, .calli (.f 57) [.t 22], none⟩,
    ⟨some 6, .p (.mov (.t 18)), none⟩,
    ⟨some 7, .p (.mov (.t 23)), none⟩])
  .ret) .skip))
  (.seq (.reg [⟨some 9, .p (.mov (.c (.int .i64 0))), none⟩])
  (.seq (.seq (.reg [⟨some 24, .p (.mov (.t 8)), none⟩,
    ⟨some 25, .p (.bin .gtr (.t 24) (.c (.int .i64 0))), none⟩])
  (.cond (.t 25) (.reg [⟨some 26, .p (.mov (.t 0)), none⟩,
    ⟨some 27, .p (.mov (.t 8)), none⟩,
    ⟨some 28, .p (.bin .sub (.t 27) (.c (.int .i64 1))), none⟩,
    ⟨some 29, .p (.iaddr none 1 (.t 26) (.t 28)), none⟩,
    ⟨some 30, .p (.loadC 1 false (.t 29)), none⟩,
    ⟨some 31, .p (.bin .add (.t 30) (.c (.int .i64 1))), none⟩,
    ⟨some 9, .p (.mov (.t 31)), none⟩]) .skip))
  (.seq (.seq (.reg [⟨some 32, .p (.mov (.t 9)), none⟩,
    ⟨some 10, .p (.mov (.t 32)), none⟩])
  (.block 0 (.loop g84_stone_Wrong_1_l0)))
  (.seq (.reg [⟨some 6, .p (.mov (.c (.sl [] .exact))), none⟩,
    ⟨some 7, .p (.mov (.c (.bool false))), none⟩])
  .ret)))))))
def g84_stone_Wrong_1 : AFn := ⟨g84_stone_Wrong_1_c, [.t 6, .t 7], 4⟩

/-- macadam/macadamref00.From -/
def g85_macadamref00_From_c : ACode := (.seq (.reg [⟨some 2, .p (.boxL 2 (.t 0)), none⟩,
    ⟨some 4, .p (.mov (.c (.int .i64 0))), none⟩])
  (.seq (.reg [⟨some 5, .p (.lad 2 0), none⟩,
    ⟨some 6, .p (.loadL 2 1 false (some (.t 5))), none⟩,
    ⟨some 7, .p (.mov (.t 1)), none⟩,
    ⟨some 8, .p (.lad 2 1), none⟩,
    ⟨some 9, .p (.loadL 2 1 false (some (.t 8))), none⟩,
    ⟨some 10, .p (.lad 2 0), none⟩,
    ⟨some 11, .p (.loadL 2 1 false (some (.t 10))), none⟩,
    ⟨some 12, .p (.bin .sub (.t 9) (.t 11)), none⟩,
    ⟨some 13, .p (.bin .add (.t 12) (.c (.int .i64 1))), none⟩,
    ⟨some 14, .calli (.f 38) [.t 7, .t 13], none⟩,
    ⟨some 15, .p (.bin .add (.t 6) (.t 14)), none⟩,
    ⟨some 4, .p (.mov (.t 15)), none⟩])
  .ret))
def g85_macadamref00_From : AFn := ⟨g85_macadamref00_From_c, [.t 4], 2⟩

/-- macadam/macadamref00.Pick -/
def g86_macadamref00_Pick_c : ACode := (.seq (.reg [⟨some 4, .p (.mov (.c (.int .i64 0))), none⟩])
  (.seq (.seq (.reg [⟨some 5, .p (.mov (.t 0)), none⟩,
    ⟨some 6, .p (.len (.t 5)), none⟩,
    ⟨some 7, .p (.bin .eql (.t 6) (.c (.int .i64 0))), none⟩])
  (.cond (.t 7) (.seq (.reg [⟨some 4, .p (.mov (.c (.int .i64 0))), none⟩])
  .ret) .skip))
  (.seq (.reg [⟨some 8, .p (.mov (.t 0)), none⟩,
    ⟨some 9, .p (.mov (.t 1)), none⟩,
    ⟨some 10, .p (.mov (.t 0)), none⟩,
    ⟨some 11, .p (.len (.t 10)), none⟩,
    ⟨some 12, .calli (.f 38) [.t 9, .t 11], none⟩,
    ⟨some 13, .p (.iaddr none 1 (.t 8) (.t 12)), none⟩,
    ⟨some 14, .p (.loadC 1 false (.t 13)), none⟩,
    ⟨some 4, .p (.mov (.t 14)), none⟩])
  .ret)))
def g86_macadamref00_Pick : AFn := ⟨g86_macadamref00_Pick_c, [.t 4], 2⟩

/-- macadam/macadamref00.In -/
def g87_macadamref00_In_c : ACode := (.seq (.reg [⟨some 4, .p (.mov (.c (.bool false))), none⟩])
  (.seq (.reg [⟨some 5, .p (.mov (.t 0)), none⟩,
    ⟨some 6, .p (.mov (.t 1)), none⟩,
    ⟨some 7, .p (.bin .shr (.t 5) (.t 6)), none⟩,
    ⟨some 8, .p (.bin .and (.t 7) (.c (.int .i64 1))), none⟩,
    ⟨some 9, .p (.bin .eql (.t 8) (.c (.int .i64 1))), none⟩,
    ⟨some 4, .p (.mov (.t 9)), none⟩])
  .ret))
def g87_macadamref00_In : AFn := ⟨g87_macadamref00_In_c, [.t 4], 2⟩

/-- macadam/macadamref00.Sooner -/
def g88_macadamref00_Sooner_l0 : ACode := (.seq (.seq (.reg [⟨some 6, .p (.mov (.t 5)), none⟩,
    ⟨some 7, .p (.mov (.t 0)), none⟩,
    ⟨some 8, .p (.len (.t 7)), none⟩,
    ⟨some 9, .p (.bin .lss (.t 6) (.t 8)), none⟩,
    ⟨some 10, .p (.mov (.t 9)), none⟩,
    ⟨some 11, .p (.mov (.t 5)), (some (10, true))⟩,
    ⟨some 12, .p (.mov (.t 1)), (some (10, true))⟩,
    ⟨some 13, .p (.len (.t 12)), (some (10, true))⟩,
    ⟨some 14, .p (.bin .lss (.t 11) (.t 13)), (some (10, true))⟩,
    ⟨some 15, .p (.pick (.t 10) (.t 14) (.c (.bool false))), none⟩])
  (.cond (.t 15) .skip (.exit 0)))
  (.seq (.block 1 (.seq (.reg [⟨some 18, .p (.mov (.t 0)), none⟩,
    ⟨some 19, .p (.mov (.t 5)), none⟩,
    ⟨some 20, .p (.iaddr none 1 (.t 18) (.t 19)), none⟩,
    ⟨some 21, .p (.loadC 1 false (.t 20)), none⟩,
    ⟨some 22, .p (.mov (.t 1)), none⟩,
    ⟨some 23, .p (.mov (.t 5)), none⟩,
    ⟨some 24, .p (.iaddr none 1 (.t 22) (.t 23)), none⟩,
    ⟨some 25, .p (.loadC 1 false (.t 24)), none⟩,
    ⟨some 26, .p (.bin .neq (.t 21) (.t 25)), none⟩])
  (.cond (.t 26) (.seq (.reg [⟨some 27, .p (.mov (.t 0)), none⟩,
    ⟨some 28, .p (.mov (.t 5)), none⟩,
    ⟨some 29, .p (.iaddr none 1 (.t 27) (.t 28)), none⟩,
    ⟨some 30, .p (.loadC 1 false (.t 29)), none⟩,
    ⟨some 31, .p (.mov (.t 1)), none⟩,
    ⟨some 32, .p (.mov (.t 5)), none⟩,
    ⟨some 33, .p (.iaddr none 1 (.t 31) (.t 32)), none⟩,
    ⟨some 34, .p (.loadC 1 false (.t 33)), none⟩,
    ⟨some 35, .p (.bin .lss (.t 30) (.t 34)), none⟩,
    ⟨some 4, .p (.mov (.t 35)), none⟩])
  .ret) .skip)))
  (.reg [⟨some 16, .p (.mov (.t 5)), none⟩,
    ⟨some 17, .p (.bin .add (.t 16) (.c (.int .i64 1))), none⟩,
    ⟨some 5, .p (.mov (.t 17)), none⟩])))
def g88_macadamref00_Sooner_c : ACode := (.seq (.reg [⟨some 4, .p (.mov (.c (.bool false))), none⟩])
  (.seq (.seq (.reg [⟨some 5, .p (.mov (.c (.int .i64 0))), none⟩])
  (.block 0 (.loop g88_macadamref00_Sooner_l0)))
  (.seq (.reg [⟨some 36, .p (.mov (.t 0)), none⟩,
    ⟨some 37, .p (.len (.t 36)), none⟩,
    ⟨some 38, .p (.mov (.t 1)), none⟩,
    ⟨some 39, .p (.len (.t 38)), none⟩,
    ⟨some 40, .p (.bin .lss (.t 37) (.t 39)), none⟩,
    ⟨some 4, .p (.mov (.t 40)), none⟩])
  .ret)))
def g88_macadamref00_Sooner : AFn := ⟨g88_macadamref00_Sooner_c, [.t 4], 2⟩

/-- macadam/macadamlaw03.book -/
def g89_macadamlaw03_book_c : ACode := (.seq (.reg [⟨some 1, .p (.boxL 1 (.t 0)), none⟩,
    ⟨some 2, .p (.allocL 2 [.sl [] .exact, .sl [] .exact, .int .i64 0, .int .i64 0, .int .i64 0, .int .i64 0]), none⟩])
  (.seq (.reg [⟨some 3, .calli (.f 44) [.c (.int .i64 10), .c (.int .i64 12)], none⟩,
    ⟨some 4, .calli (.f 44) [.c (.int .i64 2), .c (.int .i64 3)], none⟩,
    ⟨some 5, .p (.build [.int .i64 0, .int .i64 0, .int .i64 0, .int .i64 0] [(0, 2, .t 3), (2, 2, .t 4)]), none⟩,
    ⟨some 6, .calli (.f 41) [.c (.int .i64 5)], none⟩,
    ⟨some 7, .p (.loadL 1 2 true none), none⟩,
    ⟨some 8, .p (.build [.int .i64 0, .int .i64 0, .int .i64 0, .int .i64 0] [(0, 2, .t 6), (2, 2, .t 7)]), none⟩,
    ⟨some 9, .p (.bslice 4 [.int .i64 0, .int .i64 0, .int .i64 0, .int .i64 0] 2 [(0, .t 5), (1, .t 8)]), none⟩,
    ⟨some 10, .calli (.f 101) [.c (.int .i64 (-1)), .c (.int .i64 0), .c (.int .i64 0), .c (.int .i64 4)], none⟩,
    ⟨some 11, .calli (.f 101) [.c (.int .i64 0), .c (.int .i64 1), .c (.int .i64 1), .c (.int .i64 6)], none⟩,
    ⟨some 12, .calli (.f 101) [.c (.int .i64 0), .c (.int .i64 (-1)), .c (.int .i64 1), .c (.int .i64 5)], none⟩,
    ⟨some 13, .calli (.f 101) [.c (.int .i64 1), .c (.int .i64 (-1)), .c (.int .i64 0), .c (.int .i64 6)], none⟩,
    ⟨some 14, .p (.bslice 4 [.int .i64 0, .int .i64 0, .int .i64 0, .int .i64 0] 4 [(0, .t 10), (1, .t 11), (2, .t 12), (3, .t 13)]), none⟩,
    ⟨some 15, .p (.build [.int .i64 0, .int .i64 0, .int .i64 0, .int .i64 0] [(0, 1, .c (.int .i64 1)), (1, 1, .c (.int .i64 2)), (2, 1, .c (.int .i64 0)), (3, 1, .c (.int .i64 0))]), none⟩,
    ⟨some 16, .p (.build [.sl [] .exact, .sl [] .exact, .int .i64 0, .int .i64 0, .int .i64 0, .int .i64 0] [(0, 1, .t 9), (1, 1, .t 14), (2, 4, .t 15)]), none⟩,
    ⟨none, .p (.storeL 2 6 none (.t 16)), none⟩])
  .ret))
def g89_macadamlaw03_book : AFn := ⟨g89_macadamlaw03_book_c, [.cellL 2 6 true], 1⟩

/-- macadam/stone.some$1 -/
def g90_stone_some_1_c : ACode := (.seq (.reg [⟨some 3, .p (.mov (.c (.bool false))), none⟩])
  (.seq (.reg [⟨some 4, .p (.loadC 1 false (.t 1)), none⟩,
    ⟨some 5, .p (.mov (.t 0)), none⟩,
    ⟨some 6, .calli (.f 91) [.t 4, .t 5], none⟩,
    ⟨some 3, .p (.mov (.t 6)), none⟩])
  .ret))
def g90_stone_some_1 : AFn := ⟨g90_stone_some_1_c, [.t 3], 2⟩

/-- slices.Contains[[]int,int] -/
def g91_slices_Contains_c : ACode := (.seq (.reg [⟨some 4, .p (.mov (.c (.bool false))), none⟩])
  (.seq (.reg [⟨some 5, .p (.mov (.t 0)), none⟩,
    ⟨some 6, .p (.mov (.t 1)), none⟩,
    ⟨some 7, .calli (.f 102) [.t 5, .t 6], none⟩,
    ⟨some 8, .p (.bin .geq (.t 7) (.c (.int .i64 0))), none⟩,
    ⟨some 4, .p (.mov (.t 8)), none⟩])
  .ret))
def g91_slices_Contains : AFn := ⟨g91_slices_Contains_c, [.t 4], 2⟩

/-- macadam/macadamref00.Put -/
def g92_macadamref00_Put_c : ACode := (.seq (.reg [⟨some 4, .p (.mov (.c (.sl [] .exact))), none⟩])
  (.seq (.reg [⟨some 5, .p (.bslice 1 [.int .i64 0] 0 []), none⟩,
    ⟨some 6, .p (.mov (.t 0)), none⟩,
    ⟨some 7, .h (.append 1 8 (.t 5) (.t 6)), none⟩,
    ⟨some 8, .p (.mov (.t 1)), none⟩,
    ⟨some 9, .p (.bslice 1 [.int .i64 0] 1 [(0, .t 8)]), none⟩,
    ⟨some 10, .h (.append 1 8 (.t 7) (.t 9)), none⟩,
    ⟨some 4, .p (.mov (.t 10)), none⟩])
  .ret))
def g92_macadamref00_Put : AFn := ⟨g92_macadamref00_Put_c, [.t 4], 2⟩

/-- macadam/macadamref00.Union -/
def g93_macadamref00_Union_c : ACode := (.seq (.reg [⟨some 2, .p (.boxL 2 (.t 0)), none⟩,
    ⟨some 3, .p (.boxL 3 (.t 1)), none⟩,
    ⟨some 4, .p (.allocL 4 [.int .i64 0, .int .i64 0]), none⟩])
  (.seq (.reg [⟨some 5, .p (.lad 2 0), none⟩,
    ⟨some 6, .p (.loadL 2 1 false (some (.t 5))), none⟩,
    ⟨some 7, .p (.lad 3 0), none⟩,
    ⟨some 8, .p (.loadL 3 1 false (some (.t 7))), none⟩,
    ⟨some 9, .p (.mn [.t 6, .t 8]), none⟩,
    ⟨some 10, .p (.lad 2 1), none⟩,
    ⟨some 11, .p (.loadL 2 1 false (some (.t 10))), none⟩,
    ⟨some 12, .p (.lad 3 1), none⟩,
    ⟨some 13, .p (.loadL 3 1 false (some (.t 12))), none⟩,
    ⟨some 14, .p (.mx [.t 11, .t 13]), none⟩,
    ⟨some 15, .calli (.f 44) [.t 9, .t 14], none⟩,
    ⟨none, .p (.storeL 4 2 none (.t 15)), none⟩])
  .ret))
def g93_macadamref00_Union : AFn := ⟨g93_macadamref00_Union_c, [.cellL 4 2 true], 2⟩

/-- macadam/stone.nothing -/
def g94_stone_nothing_c : ACode := (.seq (.reg [⟨some 0, .p (.allocL 0 [.int .i64 0, .int .i64 0, .int .i64 0, .int .i64 0, .int .i64 0]), none⟩])
  (.seq (.reg [⟨some 1, .p (.allocL 1 [.int .i64 0, .int .i64 0, .int .i64 0, .int .i64 0, .int .i64 0]), none⟩])
  (.seq (.reg [⟨some 2, .p (.loadL 1 5 true none), none⟩,
    ⟨none, .p (.storeL 0 5 none (.t 2)), none⟩])
  .ret)))
def g94_stone_nothing : AFn := ⟨g94_stone_nothing_c, [.cellL 0 5 true], 0⟩

/-- macadam/stone.sum[int] -/
def g95_stone_sum_l0 : ACode := (.seq (.reg [⟨some 9, .p (.bin .lss (.t 8) (.t 7)), none⟩])
  (.seq (.cond (.t 9) .skip (.exit 0))
  (.seq (.block 1 (.seq (.reg [⟨some 10, .p (.iaddr none 1 (.t 6) (.t 8)), none⟩,
    ⟨some 11, .p (.loadC 1 false (.t 10)), none⟩,
    ⟨some 5, .p (.mov (.t 11)), none⟩])
  (.reg [⟨some 12, .p (.mov (.t 3)), none⟩,
    ⟨some 13, .p (.mov (.t 5)), none⟩,
    ⟨some 14, .p (.bin .add (.t 12) (.t 13)), none⟩,
    ⟨some 3, .p (.mov (.t 14)), none⟩])))
  (.reg [⟨some 15, .p (.bin .add (.t 8) (.c (.int .i64 1))), none⟩,
    ⟨some 8, .p (.mov (.t 15)), none⟩]))))
def g95_stone_sum_c : ACode := (.seq (.reg [⟨some 2, .p (.mov (.c (.int .i64 0))), none⟩])
  (.seq (.reg [⟨some 3, .p (.mov (.c (.int .i64 0))), none⟩])
  (.seq (.seq (.reg [⟨some 6, .p (.mov (.t 0)), none⟩,
    ⟨some 7, .p (.len (.t 6)), none⟩,
    ⟨some 8, .p (.mov (.c (.int .i64 0))), none⟩])
  (.block 0 (.loop g95_stone_sum_l0)))
  (.seq (.reg [⟨some 16, .p (.mov (.t 3)), none⟩,
    ⟨some 2, .p (.mov (.t 16)), none⟩])
  .ret))))
def g95_stone_sum : AFn := ⟨g95_stone_sum_c, [.t 2], 1⟩

/-- (macadam/stone.book).all$1 -/
def g96_stone_book_all_1_l0 : ACode := (.seq (.reg [⟨some 13, .p (.bin .lss (.t 12) (.t 11)), none⟩])
  (.seq (.cond (.t 13) .skip (.exit 0))
  (.seq (.block 1 (.seq (.reg [⟨some 14, .p (.mov (.t 12)), none⟩,
    ⟨some 15, .p (.iaddr none 4 (.t 10) (.t 12)), none⟩,
    ⟨some 16, .p (.loadC 4 true (.t 15)), none⟩,
    ⟨some 7, .p (.allocL 7 [.int .i64 0, .int .i64 0, .int .i64 0, .int .i64 0]), none⟩,
    ⟨some 6, .p (.mov (.t 14)), none⟩,
    ⟨none, .p (.storeL 7 4 none (.t 16)), none⟩])
  (.seq (.reg [⟨some 17, .p (.loadC 1 false (.t 2)), none⟩,
    ⟨some 18, .p (.loadL 7 4 true none), none⟩,
    ⟨some 19, .calli (.t 17) [.t 18], none⟩])
  (.cond (.t 19) (.reg [⟨some 20, .p (.mov (.t 5)), none⟩,
    ⟨some 21, .p (.mov (.t 6)), none⟩,
    ⟨some 22, .p (.lad 3 0), none⟩,
    ⟨some 23, .p (.iaddr (some 5) 1 (.t 22) (.t 21)), none⟩,
    ⟨some 24, .p (.loadL 3 1 false (some (.t 23))), none⟩,
    ⟨some 25, .p (.bin .add (.t 20) (.t 24)), none⟩,
    ⟨some 5, .p (.mov (.t 25)), none⟩]) .skip))))
  (.reg [⟨some 26, .p (.bin .add (.t 12) (.c (.int .i64 1))), none⟩,
    ⟨some 12, .p (.mov (.t 26)), none⟩]))))
def g96_stone_book_all_1_c : ACode := (.seq (.reg [⟨some 3, .p (.boxL 3 (.t 0)), none⟩,
    ⟨some 4, .p (.allocL 4 [.int .i64 0, .int .i64 0]), none⟩])
  (.seq (.reg [⟨some 5, .p (.mov (.c (.int .i64 0))), none⟩])
  (.seq (.seq (.reg [⟨some 8, .p (.faddr 0 (.t 1)), none⟩,
    ⟨some 9, .p (.faddr 1 (.t 8)), none⟩,
    ⟨some 10, .p (.loadC 1 false (.t 9)), none⟩,
    ⟨some 11, .p (.len (.t 10)), none⟩,
    ⟨some 12, .p (.mov (.c (.int .i64 0))), none⟩])
  (.block 0 (.loop g96_stone_book_all_1_l0)))
  (.seq (.reg [⟨some 27, .p (.mov (.t 5)), none⟩,
    ⟨some 28, .p (.mov (.t 5)), none⟩,
    ⟨some 29, .p (.build [.int .i64 0, .int .i64 0] [(0, 1, .t 27), (1, 1, .t 28)]), none⟩,
    ⟨none, .p (.storeL 4 2 none (.t 29)), none⟩])
  .ret))))
def g96_stone_book_all_1 : AFn := ⟨g96_stone_book_all_1_c, [.cellL 4 2 true], 3⟩

/-- (macadam/stone.book).truths$1 -/
def g97_stone_book_truths_1_c : ACode := (.seq (.reg [⟨some 2, .p (.boxL 2 (.t 0)), none⟩])
  (.seq (.reg [⟨some 5, .p (.loadC 8 true (.t 1)), none⟩,
    ⟨some 6, .p (.mkfn 98 [.t 5] []), none⟩,
    ⟨some 3, .p (.allocL 3 [.nilf]), none⟩,
    ⟨none, .p (.storeL 3 1 none (.t 6)), none⟩])
  (.seq (.reg [⟨some 4, .h (.alloc [.nilf]), none⟩])
  (.seq (.frz [2, 3] (.reg [⟨some 7, .p (.mkfn 99 [] [.t 1, .t 2, .t 3, .t 4]), none⟩,
    ⟨none, .h (.store 1 (.t 4) (.t 7)), none⟩]))
  (.reg [⟨some 8, .h (.load 1 false (.t 4)), none⟩,
    ⟨some 9, .calli (.f 94) [], none⟩,
    ⟨some 10, .call (.t 8) [.t 9, .c (.int .i64 0)], none⟩])))))
def g97_stone_book_truths_1 : AFn := ⟨g97_stone_book_truths_1_c, [], 2⟩

/-- (macadam/stone.book).right -/
def g98_stone_book_right_c : ACode := (.seq (.reg [⟨some 3, .p (.boxL 3 (.t 0)), none⟩,
    ⟨some 6, .p (.mov (.c (.bool false))), none⟩])
  (.seq (.reg [⟨some 8, .p (.lad 3 0), none⟩,
    ⟨some 9, .p (.faddr 1 (.t 8)), none⟩,
    ⟨some 10, .p (.loadL 3 1 false (some (.t 9))), none⟩,
    ⟨some 11, .p (.mov (.t 1)), none⟩,
    ⟨some 12, .p (.iaddr none 4 (.t 10) (.t 11)), none⟩,
    ⟨some 13, .p (.loadC 4 true (.t 12)), none⟩,
    ⟨some 7, .p (.allocL 7 [.int .i64 0, .int .i64 0, .int .i64 0, .int .i64 0]), none⟩,
    ⟨none, .p (.storeL 7 4 none (.t 13)), none⟩])
  (.seq (.reg [⟨some 14, .p (.lad 3 6), none⟩,
    ⟨some 15, .p (.faddr 0 (.t 14)), none⟩,
    ⟨some 16, .p (.loadL 3 1 false (some (.t 15))), none⟩,
    ⟨some 17, .p (.mov (.t 1)), none⟩,
    ⟨some 18, .calli (.t 16) [.t 17], none⟩,
    ⟨some 19, .p (.mov (.t 18)), none⟩,
    ⟨some 20, .p (.lad 7 3), (some (19, false))⟩,
    ⟨some 21, .p (.loadL 7 1 false (some (.t 20))), (some (19, false))⟩,
    ⟨some 22, .p (.mov (.t 2)), (some (19, false))⟩,
    ⟨some 23, .p (.bin .sub (.t 21) (.t 22)), (some (19, false))⟩,
    ⟨some 24, .p (.lad 7 2), (some (19, false))⟩,
    ⟨some 25, .p (.loadL 7 1 false (some (.t 24))), (some (19, false))⟩,
    ⟨some 26, .p (.lad 3 0), (some (19, false))⟩,
    ⟨some 27, .p (.faddr 2 (.t 26)), (some (19, false))⟩,
    ⟨some 28, .p (.iaddr (some 4) 1 (.t 27) (.t 25)), (some (19, false))⟩,
    ⟨some 29, .p (.loadL 3 1 false (some (.t 28))), (some (19, false))⟩,
    ⟨some 30, .calli (.f 59) [.t 23, .c (.int .i64 0), .t 29], (some (19, false))⟩,
    ⟨some 31, .p (.pick (.t 19) (.c (.bool true)) (.t 30)), none⟩,
    ⟨some 6, .p (.mov (.t 31)), none⟩])
  .ret)))
def g98_stone_book_right : AFn := ⟨g98_stone_book_right_c, [.t 6], 3⟩

/-- (macadam/stone.book).truths$1$1 -/
def g99_stone_book_truths_1_1_l0 : ACode := (.seq (.reg [⟨some 27, .p (.bin .lss (.t 26) (.t 25)), none⟩])
  (.seq (.cond (.t 27) .skip (.exit 0))
  (.seq (.block 1 (.seq (.reg [⟨some 28, .p (.mov (.t 26)), none⟩,
    ⟨some 10, .p (.mov (.t 28)), none⟩])
  (.seq (.reg [⟨some 30, .p (.loadC 8 true (.t 2)), none⟩,
    ⟨some 31, .p (.loadL 6 5 true none), none⟩,
    ⟨some 32, .p (.mov (.t 10)), none⟩,
    ⟨some 33, .calli (.f 100) [.t 30, .t 31, .t 32], none⟩,
    ⟨some 29, .p (.mov (.t 33)), none⟩,
    ⟨some 34, .p (.extract (.t 29) 0), none⟩,
    ⟨some 35, .p (.extract (.t 29) 1), none⟩,
    ⟨some 11, .p (.allocL 11 [.int .i64 0, .int .i64 0]), none⟩,
    ⟨none, .p (.storeL 11 2 none (.t 34)), none⟩,
    ⟨some 12, .p (.mov (.t 35)), none⟩])
  (.seq (.seq (.reg [⟨some 36, .p (.mov (.t 12)), none⟩,
    ⟨some 37, .p (.un .not (.t 36)), none⟩])
  (.cond (.t 37) (.seq (.reg [⟨some 8, .p (.mov (.c (.bool true))), none⟩])
  .ret) .skip))
  (.reg [⟨some 38, .p (.mov (.t 10)), none⟩,
    ⟨some 39, .p (.loadL 11 2 true none), none⟩,
    ⟨some 40, .p (.lad 9 5), none⟩,
    ⟨some 41, .p (.iaddr (some 4) 2 (.t 40) (.t 38)), none⟩,
    ⟨none, .p (.storeL 9 2 (some (.t 41)) (.t 39)), none⟩])))))
  (.reg [⟨some 42, .p (.bin .add (.t 26) (.c (.int .i64 1))), none⟩,
    ⟨some 26, .p (.mov (.t 42)), none⟩]))))
def g99_stone_book_truths_1_1_l1 : ACode := (.seq (.reg [⟨some 47, .p (.bin .lss (.t 46) (.c (.int .i64 7))), none⟩])
  (.seq (.cond (.t 47) .skip (.exit 2))
  (.seq (.block 3 (.seq (.reg [⟨some 48, .p (.mov (.t 46)), none⟩,
    ⟨some 13, .p (.mov (.t 48)), none⟩])
  (.seq (.seq (.reg [⟨some 49, .p (.loadC 1 false (.t 4)), none⟩,
    ⟨some 50, .p (.mov (.t 1)), none⟩,
    ⟨some 51, .p (.mov (.t 13)), none⟩,
    ⟨some 52, .calli (.t 49) [.t 50, .t 51], none⟩,
    ⟨some 53, .p (.un .not (.t 52)), none⟩])
  (.cond (.t 53) (.exit 3) .skip))
  (.seq (.reg [⟨some 54, .p (.mov (.t 1)), none⟩,
    ⟨some 55, .p (.mov (.t 13)), none⟩,
    ⟨some 56, .p (.ladi 6 5 1 (.t 54)), none⟩,
    ⟨none, .p (.storeL 6 1 (some (.t 56)) (.t 55)), none⟩])
  (.seq (.reg [⟨some 57, .h (.load 1 false (.t 5)), none⟩,
    ⟨some 58, .p (.loadL 6 5 true none), none⟩,
    ⟨some 59, .p (.mov (.t 1)), none⟩,
    ⟨some 60, .p (.bin .add (.t 59) (.c (.int .i64 1))), none⟩,
    ⟨some 61, .call (.t 57) [.t 58, .t 60], none⟩,
    ⟨some 62, .p (.un .not (.t 61)), none⟩])
  (.cond (.t 62) (.seq (.reg [⟨some 8, .p (.mov (.c (.bool false))), none⟩])
  .ret) .skip))))))
  (.reg [⟨some 63, .p (.bin .add (.t 46) (.c (.int .i64 1))), none⟩,
    ⟨some 46, .p (.mov (.t 63)), none⟩]))))
def g99_stone_book_truths_1_1_c : ACode := (.seq (.reg [⟨some 6, .p (.boxL 6 (.t 0)), none⟩,
    ⟨some 8, .p (.mov (.c (.bool false))), none⟩])
  (.scope (.seq (.seq (.reg [⟨some 14, .p (.mov (.t 1)), none⟩,
    ⟨some 15, .p (.faddr 0 (.t 2)), none⟩,
    ⟨some 16, .p (.faddr 1 (.t 15)), none⟩,
    ⟨some 17, .p (.loadC 1 false (.t 16)), none⟩,
    ⟨some 18, .p (.len (.t 17)), none⟩,
    ⟨some 19, .p (.bin .eql (.t 14) (.t 18)), none⟩])
  (.cond (.t 19) (.seq (.reg [⟨some 20, .p (.loadL 6 5 true none), none⟩,
    ⟨some 21, .p (.build [.int .i64 0, .int .i64 0, .int .i64 0, .int .i64 0, .int .i64 0, .int .i64 0, .int .i64 0, .int .i64 0, .int .i64 0, .int .i64 0, .int .i64 0, .int .i64 0, .int .i64 0] [(0, 5, .t 20)]), none⟩,
    ⟨some 9, .p (.allocL 9 [.int .i64 0, .int .i64 0, .int .i64 0, .int .i64 0, .int .i64 0, .int .i64 0, .int .i64 0, .int .i64 0, .int .i64 0, .int .i64 0, .int .i64 0, .int .i64 0, .int .i64 0]), none⟩,
    ⟨none, .p (.storeL 9 13 none (.t 21)), none⟩])
  (.seq (.seq (.reg [⟨some 22, .p (.faddr 0 (.t 2)), none⟩,
    ⟨some 23, .p (.faddr 0 (.t 22)), none⟩,
    ⟨some 24, .p (.loadC 1 false (.t 23)), none⟩,
    ⟨some 25, .p (.len (.t 24)), none⟩,
    ⟨some 26, .p (.mov (.c (.int .i64 0))), none⟩])
  (.block 0 (.loop g99_stone_book_truths_1_1_l0)))
  (.seq (.reg [⟨some 43, .p (.loadC 1 false (.t 3)), none⟩,
    ⟨some 44, .p (.loadL 9 13 true none), none⟩,
    ⟨some 45, .call (.t 43) [.t 44], none⟩,
    ⟨some 8, .p (.mov (.t 45)), none⟩])
  .ret))) .skip))
  (.seq .skip
  (.seq (.seq (.reg [⟨some 46, .p (.mov (.c (.int .i64 0))), none⟩])
  (.block 2 (.loop g99_stone_book_truths_1_1_l1)))
  (.seq (.reg [⟨some 8, .p (.mov (.c (.bool true))), none⟩])
  .ret))))))
def g99_stone_book_truths_1_1 : AFn := ⟨g99_stone_book_truths_1_1_c, [.t 8], 6⟩

/-- (macadam/stone.book).first -/
def g100_stone_book_first_l0 : ACode := (.seq (.reg [⟨some 51, .p (.bin .lss (.t 50) (.t 49)), none⟩])
  (.seq (.cond (.t 51) .skip (.exit 0))
  (.seq (.block 1 (.seq (.reg [⟨some 52, .p (.mov (.t 50)), none⟩,
    ⟨some 11, .p (.mov (.t 52)), none⟩])
  (.reg [⟨some 53, .p (.lad 10 0), none⟩,
    ⟨some 54, .p (.loadL 10 1 false (some (.t 53))), none⟩,
    ⟨some 55, .p (.loadL 3 8 true none), none⟩,
    ⟨some 56, .p (.loadL 4 5 true none), none⟩,
    ⟨some 57, .p (.mov (.t 2)), none⟩,
    ⟨some 58, .p (.mov (.t 11)), none⟩,
    ⟨some 59, .calli (.f 75) [.t 55, .t 56, .t 57, .t 58], none⟩,
    ⟨some 60, .p (.un .neg (.t 59)), none⟩,
    ⟨some 61, .p (.mx [.t 54, .t 60]), none⟩,
    ⟨some 62, .p (.lad 10 0), none⟩,
    ⟨none, .p (.storeL 10 1 (some (.t 62)) (.t 61)), none⟩])))
  (.reg [⟨some 63, .p (.bin .add (.t 50) (.c (.int .i64 1))), none⟩,
    ⟨some 50, .p (.mov (.t 63)), none⟩]))))
def g100_stone_book_first_c : ACode := (.seq (.reg [⟨some 3, .p (.boxL 3 (.t 0)), none⟩,
    ⟨some 4, .p (.boxL 4 (.t 1)), none⟩,
    ⟨some 6, .p (.allocL 6 [.int .i64 0, .int .i64 0]), none⟩,
    ⟨some 7, .p (.mov (.c (.bool false))), none⟩])
  (.seq (.reg [⟨some 12, .p (.lad 3 0), none⟩,
    ⟨some 13, .p (.faddr 0 (.t 12)), none⟩,
    ⟨some 14, .p (.loadL 3 1 false (some (.t 13))), none⟩,
    ⟨some 15, .p (.mov (.t 2)), none⟩,
    ⟨some 16, .p (.iaddr none 4 (.t 14) (.t 15)), none⟩,
    ⟨some 17, .p (.loadC 4 true (.t 16)), none⟩,
    ⟨some 18, .p (.loadL 3 8 true none), none⟩,
    ⟨some 19, .p (.loadL 4 5 true none), none⟩,
    ⟨some 20, .p (.mov (.t 2)), none⟩,
    ⟨some 21, .p (.lad 3 0), none⟩,
    ⟨some 22, .p (.faddr 1 (.t 21)), none⟩,
    ⟨some 23, .p (.loadL 3 1 false (some (.t 22))), none⟩,
    ⟨some 24, .p (.len (.t 23)), none⟩,
    ⟨some 25, .calli (.f 75) [.t 18, .t 19, .t 20, .t 24], none⟩,
    ⟨some 8, .p (.allocL 8 [.int .i64 0, .int .i64 0, .int .i64 0, .int .i64 0]), none⟩,
    ⟨none, .p (.storeL 8 4 none (.t 17)), none⟩,
    ⟨some 9, .p (.mov (.t 25)), none⟩])
  (.seq (.reg [⟨some 26, .p (.lad 8 0), none⟩,
    ⟨some 27, .p (.faddr 0 (.t 26)), none⟩,
    ⟨some 28, .p (.loadL 8 1 false (some (.t 27))), none⟩,
    ⟨some 29, .p (.lad 8 2), none⟩,
    ⟨some 30, .p (.faddr 0 (.t 29)), none⟩,
    ⟨some 31, .p (.loadL 8 1 false (some (.t 30))), none⟩,
    ⟨some 32, .p (.mov (.t 9)), none⟩,
    ⟨some 33, .p (.bin .sub (.t 31) (.t 32)), none⟩,
    ⟨some 34, .p (.mx [.t 28, .t 33]), none⟩,
    ⟨some 35, .p (.lad 8 0), none⟩,
    ⟨some 36, .p (.faddr 1 (.t 35)), none⟩,
    ⟨some 37, .p (.loadL 8 1 false (some (.t 36))), none⟩,
    ⟨some 38, .p (.lad 8 2), none⟩,
    ⟨some 39, .p (.faddr 1 (.t 38)), none⟩,
    ⟨some 40, .p (.loadL 8 1 false (some (.t 39))), none⟩,
    ⟨some 41, .p (.mov (.t 9)), none⟩,
    ⟨some 42, .p (.bin .sub (.t 40) (.t 41)), none⟩,
    ⟨some 43, .p (.mn [.t 37, .t 42]), none⟩,
    ⟨some 44, .p (.build [.int .i64 0, .int .i64 0] [(0, 1, .t 34), (1, 1, .t 43)]), none⟩,
    ⟨some 10, .p (.allocL 10 [.int .i64 0, .int .i64 0]), none⟩,
    ⟨none, .p (.storeL 10 2 none (.t 44)), none⟩])
  (.seq (.seq (.reg [⟨some 45, .p (.lad 3 0), none⟩,
    ⟨some 46, .p (.faddr 1 (.t 45)), none⟩,
    ⟨some 47, .p (.loadL 3 1 false (some (.t 46))), none⟩,
    ⟨some 48, .p (.len (.t 47)), none⟩,
    ⟨some 49, .p (.bin .add (.t 48) (.c (.int .i64 1))), none⟩,
    ⟨some 50, .p (.mov (.c (.int .i64 0))), none⟩])
  (.block 0 (.loop g100_stone_book_first_l0)))
  (.seq (.reg [⟨some 64, .p (.loadL 10 2 true none), none⟩,
    ⟨some 65, .p (.lad 10 0), none⟩,
    ⟨some 66, .p (.loadL 10 1 false (some (.t 65))), none⟩,
    ⟨some 67, .p (.lad 10 1), none⟩,
    ⟨some 68, .p (.loadL 10 1 false (some (.t 67))), none⟩,
    ⟨some 69, .p (.bin .leq (.t 66) (.t 68)), none⟩,
    ⟨none, .p (.storeL 6 2 none (.t 64)), none⟩,
    ⟨some 7, .p (.mov (.t 69)), none⟩])
  .ret)))))
def g100_stone_book_first : AFn := ⟨g100_stone_book_first_c, [.cellL 6 2 true, .t 7], 3⟩

/-- macadam/macadamlaw03.move -/
def g101_macadamlaw03_move_c : ACode := (.seq (.reg [⟨some 8, .p (.allocL 8 [.int .i64 0, .int .i64 0, .int .i64 0, .int .i64 0]), none⟩])
  (.seq (.reg [⟨some 9, .p (.mov (.t 0)), none⟩,
    ⟨some 10, .p (.mov (.t 1)), none⟩,
    ⟨some 11, .p (.mov (.t 2)), none⟩,
    ⟨some 12, .p (.mov (.t 3)), none⟩,
    ⟨some 13, .p (.build [.int .i64 0, .int .i64 0, .int .i64 0, .int .i64 0] [(0, 1, .t 9), (1, 1, .t 10), (2, 1, .t 11), (3, 1, .t 12)]), none⟩,
    ⟨none, .p (.storeL 8 4 none (.t 13)), none⟩])
  .ret))
def g101_macadamlaw03_move : AFn := ⟨g101_macadamlaw03_move_c, [.cellL 8 4 true], 4⟩

/-- slices.Index[[]int,int] -/
def g102_slices_Index_l0 : ACode := (.seq (.reg [⟨some 9, .p (.bin .lss (.t 8) (.t 7)), none⟩])
  (.seq (.cond (.t 9) .skip (.exit 0))
  (.seq (.block 1 (.seq (.reg [⟨some 10, .p (.mov (.t 8)), none⟩,
    ⟨some 5, .p (.mov (.t 10)), none⟩])
  (.seq (.reg [⟨some 11, .p (.mov (.t 1)), none⟩,
    ⟨some 12, .p (.mov (.t 0)), none⟩,
    ⟨some 13, .p (.mov (.t 5)), none⟩,
    ⟨some 14, .p (.iaddr none 1 (.t 12) (.t 13)), none⟩,
    ⟨some 15, .p (.loadC 1 false (.t 14)), none⟩,
    ⟨some 16, .p (.bin .eql (.t 11) (.t 15)), none⟩])
  (.cond (.t 16) (.seq (.reg [⟨some 17, .p (.mov (.t 5)), none⟩,
    ⟨some 4, .p (.mov (.t 17)), none⟩])
  .ret) .skip))))
  (.reg [⟨some 18, .p (.bin .add (.t 8) (.c (.int .i64 1))), none⟩,
    ⟨some 8, .p (.mov (.t 18)), none⟩]))))
def g102_slices_Index_c : ACode := (.seq (.reg [⟨some 4, .p (.mov (.c (.int .i64 0))), none⟩])
  (.seq (.seq (.reg [⟨some 6, .p (.mov (.t 0)), none⟩,
    ⟨some 7, .p (.len (.t 6)), none⟩,
    ⟨some 8, .p (.mov (.c (.int .i64 0))), none⟩])
  (.block 0 (.loop g102_slices_Index_l0)))
  (.seq (.reg [⟨some 4, .p (.mov (.c (.int .i64 (-1)))), none⟩])
  .ret)))
def g102_slices_Index : AFn := ⟨g102_slices_Index_c, [.t 4], 2⟩

/-- (macadam/stone.move).coming -/
def g118_stone_move_coming_c : ACode := (.seq (.reg [⟨some 3, .p (.boxL 3 (.t 0)), none⟩,
    ⟨some 6, .p (.mov (.c (.int .i64 0))), none⟩])
  (.seq (.seq (.reg [⟨some 7, .p (.lad 3 0), none⟩,
    ⟨some 8, .p (.loadL 3 1 false (some (.t 7))), none⟩,
    ⟨some 9, .p (.mov (.t 1)), none⟩,
    ⟨some 10, .p (.bin .eql (.t 8) (.t 9)), none⟩])
  (.cond (.t 10) (.seq (.reg [⟨some 11, .p (.mov (.t 2)), none⟩,
    ⟨some 12, .p (.un .neg (.t 11)), none⟩,
    ⟨some 6, .p (.mov (.t 12)), none⟩])
  .ret) .skip))
  (.seq (.reg [⟨some 6, .p (.mov (.c (.int .i64 0))), none⟩])
  .ret)))
def g118_stone_move_coming : AFn := ⟨g118_stone_move_coming_c, [.t 6], 3⟩

/-- (macadam/stone.move).going -/
def g120_stone_move_going_c : ACode := (.seq (.reg [⟨some 3, .p (.boxL 3 (.t 0)), none⟩,
    ⟨some 6, .p (.mov (.c (.int .i64 0))), none⟩])
  (.seq (.seq (.reg [⟨some 7, .p (.lad 3 1), none⟩,
    ⟨some 8, .p (.loadL 3 1 false (some (.t 7))), none⟩,
    ⟨some 9, .p (.mov (.t 1)), none⟩,
    ⟨some 10, .p (.bin .eql (.t 8) (.t 9)), none⟩])
  (.cond (.t 10) (.seq (.reg [⟨some 11, .p (.mov (.t 2)), none⟩,
    ⟨some 6, .p (.mov (.t 11)), none⟩])
  .ret) .skip))
  (.seq (.reg [⟨some 6, .p (.mov (.c (.int .i64 0))), none⟩])
  .ret)))
def g120_stone_move_going : AFn := ⟨g120_stone_move_going_c, [.t 6], 3⟩

end Av
end

section
/- The lowered text of the program, third part; IrC holds it against the translation. -/
namespace Av
open Go (IntKind BinOp UnOp)
/-- macadam/macadamlaw03.StoneKnown -/
def g14_macadamlaw03_StoneKnown_l0 : ACode := (.seq (.seq (.reg [⟨some 141, .p (.mov (.t 2)), none⟩,
    ⟨some 142, .p (.mov (.t 1)), none⟩,
    ⟨some 143, .p (.len (.t 142)), none⟩,
    ⟨some 144, .p (.bin .lss (.t 141) (.t 143)), none⟩])
  (.cond (.t 144) .skip (.exit 0)))
  (.seq (.block 1 (.seq (.reg [⟨some 148, .p (.mov (.t 1)), none⟩,
    ⟨some 149, .p (.mov (.t 2)), none⟩,
    ⟨some 150, .p (.iaddr none 6 (.t 148) (.t 149)), none⟩,
    ⟨some 151, .h (.loadz 6 (.t 150)), none⟩,
    ⟨some 152, .calli (.f 15) [.t 151], none⟩,
    ⟨some 147, .p (.mov (.t 152)), none⟩,
    ⟨some 153, .p (.extract (.t 147) 0), none⟩,
    ⟨some 154, .p (.extract (.t 147) 1), none⟩,
    ⟨some 3, .p (.mov (.t 153)), none⟩,
    ⟨some 4, .p (.mov (.t 154)), none⟩])
  (.seq (.reg [⟨some 156, .p (.mov (.t 1)), none⟩,
    ⟨some 157, .p (.mov (.t 2)), none⟩,
    ⟨some 158, .p (.iaddr none 6 (.t 156) (.t 157)), none⟩,
    ⟨some 159, .h (.loadz 6 (.t 158)), none⟩,
    ⟨some 160, .calli (.f 19) [.t 159, .c (.int .i64 (-1))], none⟩,
    ⟨some 155, .p (.mov (.t 160)), none⟩,
    ⟨some 161, .p (.extract (.t 155) 0), none⟩,
    ⟨some 162, .p (.extract (.t 155) 1), none⟩,
    ⟨some 5, .p (.allocL 5 [.int .i64 0, .int .i64 0]), none⟩,
    ⟨none, .p (.storeL 5 2 none (.t 161)), none⟩,
    ⟨some 6, .p (.mov (.t 162)), none⟩])
  (.seq (.reg [⟨some 164, .p (.mov (.t 1)), none⟩,
    ⟨some 165, .p (.mov (.t 2)), none⟩,
    ⟨some 166, .p (.iaddr none 6 (.t 164) (.t 165)), none⟩,
    ⟨some 167, .h (.loadz 6 (.t 166)), none⟩,
    ⟨some 168, .calli (.f 21) [.t 167, .c (.int .i64 (-1)), .c (.int .i64 0)], none⟩,
    ⟨some 163, .p (.mov (.t 168)), none⟩,
    ⟨some 169, .p (.extract (.t 163) 0), none⟩,
    ⟨some 170, .p (.extract (.t 163) 1), none⟩,
    ⟨some 7, .p (.allocL 7 [.int .i64 0, .int .i64 0]), none⟩,
    ⟨none, .p (.storeL 7 2 none (.t 169)), none⟩,
    ⟨some 8, .p (.mov (.t 170)), none⟩])
  (.seq (.reg [⟨some 172, .p (.mov (.t 1)), none⟩,
    ⟨some 173, .p (.mov (.t 2)), none⟩,
    ⟨some 174, .p (.iaddr none 6 (.t 172) (.t 173)), none⟩,
    ⟨some 175, .h (.loadz 6 (.t 174)), none⟩,
    ⟨some 176, .calli (.f 24) [.t 175], none⟩,
    ⟨some 171, .p (.mov (.t 176)), none⟩,
    ⟨some 177, .p (.extract (.t 171) 0), none⟩,
    ⟨some 178, .p (.extract (.t 171) 1), none⟩,
    ⟨some 9, .p (.allocL 9 [.int .i64 0, .int .i64 0]), none⟩,
    ⟨none, .p (.storeL 9 2 none (.t 177)), none⟩,
    ⟨some 10, .p (.mov (.t 178)), none⟩])
  (.seq (.reg [⟨some 180, .p (.mov (.t 1)), none⟩,
    ⟨some 181, .p (.mov (.t 2)), none⟩,
    ⟨some 182, .p (.iaddr none 6 (.t 180) (.t 181)), none⟩,
    ⟨some 183, .h (.loadz 6 (.t 182)), none⟩,
    ⟨some 184, .calli (.f 26) [.t 183, .c (.int .i64 (-1)), .c (.int .i64 0)], none⟩,
    ⟨some 179, .p (.mov (.t 184)), none⟩,
    ⟨some 185, .p (.extract (.t 179) 0), none⟩,
    ⟨some 186, .p (.extract (.t 179) 1), none⟩,
    ⟨some 11, .p (.allocL 11 [.int .i64 0, .int .i64 0]), none⟩,
    ⟨none, .p (.storeL 11 2 none (.t 185)), none⟩,
    ⟨some 12, .p (.mov (.t 186)), none⟩])
  (.seq (.reg [⟨some 188, .p (.mov (.t 1)), none⟩,
    ⟨some 189, .p (.mov (.t 2)), none⟩,
    ⟨some 190, .p (.iaddr none 6 (.t 188) (.t 189)), none⟩,
    ⟨some 191, .h (.loadz 6 (.t 190)), none⟩,
    ⟨some 192, .calli (.f 31) [.t 191, .c (.int .i64 (-1)), .c (.int .i64 0)], none⟩,
    ⟨some 187, .p (.mov (.t 192)), none⟩,
    ⟨some 193, .p (.extract (.t 187) 0), none⟩,
    ⟨some 194, .p (.extract (.t 187) 1), none⟩,
    ⟨some 13, .p (.mov (.t 193)), none⟩,
    ⟨some 14, .p (.mov (.t 194)), none⟩])
  (.seq (.reg [⟨some 196, .p (.mov (.t 1)), none⟩,
    ⟨some 197, .p (.mov (.t 2)), none⟩,
    ⟨some 198, .p (.iaddr none 6 (.t 196) (.t 197)), none⟩,
    ⟨some 199, .h (.loadz 6 (.t 198)), none⟩,
    ⟨some 200, .calli (.f 28) [.t 199], none⟩,
    ⟨some 195, .p (.mov (.t 200)), none⟩,
    ⟨some 201, .p (.extract (.t 195) 0), none⟩,
    ⟨some 202, .p (.extract (.t 195) 1), none⟩,
    ⟨some 15, .p (.mov (.t 201)), none⟩,
    ⟨some 16, .p (.mov (.t 202)), none⟩])
  (.seq (.reg [⟨some 204, .p (.mov (.t 1)), none⟩,
    ⟨some 205, .p (.mov (.t 2)), none⟩,
    ⟨some 206, .p (.iaddr none 6 (.t 204) (.t 205)), none⟩,
    ⟨some 207, .h (.loadz 6 (.t 206)), none⟩,
    ⟨some 208, .calli (.f 33) [.t 207], none⟩,
    ⟨some 203, .p (.mov (.t 208)), none⟩,
    ⟨some 209, .p (.extract (.t 203) 0), none⟩,
    ⟨some 210, .p (.extract (.t 203) 1), none⟩,
    ⟨some 17, .p (.mov (.t 209)), none⟩,
    ⟨some 18, .p (.mov (.t 210)), none⟩])
  (.seq (.reg [⟨some 211, .p (.mov (.t 1)), none⟩,
    ⟨some 212, .p (.mov (.t 2)), none⟩,
    ⟨some 213, .p (.iaddr none 6 (.t 211) (.t 212)), none⟩,
    ⟨some 214, .h (.loadz 6 (.t 213)), none⟩,
    ⟨some 215, .calli (.f 17) [.t 214], none⟩,
    ⟨some 216, .p (.bin .neq (.t 215) (.c (.int .i64 30))), none⟩,
    ⟨some 217, .p (.mov (.t 216)), none⟩,
    ⟨some 218, .p (.mov (.t 4)), (some (217, false))⟩,
    ⟨some 219, .p (.bin .neq (.t 218) (.c (.int .i64 30))), (some (217, false))⟩,
    ⟨some 220, .p (.pick (.t 217) (.c (.bool true)) (.t 219)), none⟩,
    ⟨some 221, .p (.mov (.t 220)), none⟩,
    ⟨some 222, .p (.mov (.t 6)), (some (221, false))⟩,
    ⟨some 223, .p (.bin .neq (.t 222) (.c (.int .i64 30))), (some (221, false))⟩,
    ⟨some 224, .p (.pick (.t 221) (.c (.bool true)) (.t 223)), none⟩,
    ⟨some 225, .p (.mov (.t 224)), none⟩,
    ⟨some 226, .p (.mov (.t 8)), (some (225, false))⟩,
    ⟨some 227, .p (.bin .neq (.t 226) (.c (.int .i64 30))), (some (225, false))⟩,
    ⟨some 228, .p (.pick (.t 225) (.c (.bool true)) (.t 227)), none⟩,
    ⟨some 229, .p (.mov (.t 228)), none⟩,
    ⟨some 230, .p (.mov (.t 10)), (some (229, false))⟩,
    ⟨some 231, .p (.bin .neq (.t 230) (.c (.int .i64 30))), (some (229, false))⟩,
    ⟨some 232, .p (.pick (.t 229) (.c (.bool true)) (.t 231)), none⟩,
    ⟨some 233, .p (.mov (.t 232)), none⟩,
    ⟨some 234, .p (.mov (.t 12)), (some (233, false))⟩,
    ⟨some 235, .p (.bin .neq (.t 234) (.c (.int .i64 30))), (some (233, false))⟩,
    ⟨some 236, .p (.pick (.t 233) (.c (.bool true)) (.t 235)), none⟩,
    ⟨some 237, .p (.mov (.t 236)), none⟩,
    ⟨some 238, .p (.mov (.t 14)), (some (237, false))⟩,
    ⟨some 239, .p (.bin .neq (.t 238) (.c (.int .i64 30))), (some (237, false))⟩,
    ⟨some 240, .p (.pick (.t 237) (.c (.bool true)) (.t 239)), none⟩,
    ⟨some 241, .p (.mov (.t 240)), none⟩,
    ⟨some 242, .p (.mov (.t 16)), (some (241, false))⟩,
    ⟨some 243, .p (.bin .neq (.t 242) (.c (.int .i64 30))), (some (241, false))⟩,
    ⟨some 244, .p (.pick (.t 241) (.c (.bool true)) (.t 243)), none⟩,
    ⟨some 245, .p (.mov (.t 244)), none⟩,
    ⟨some 246, .p (.mov (.t 18)), (some (245, false))⟩,
    ⟨some 247, .p (.bin .neq (.t 246) (.c (.int .i64 30))), (some (245, false))⟩,
    ⟨some 248, .p (.pick (.t 245) (.c (.bool true)) (.t 247)), none⟩])
  (.cond (.t 248) (.seq (.reg [⟨some 0, .p (.mov (.c (.bool false))), none⟩])
  .ret) .skip)))))))))))
  (.reg [⟨some 145, .p (.mov (.t 2)), none⟩,
    ⟨some 146, .p (.bin .add (.t 145) (.c (.int .i64 1))), none⟩,
    ⟨some 2, .p (.mov (.t 146)), none⟩])))
def g14_macadamlaw03_StoneKnown_l1 : ACode := (.seq (.seq (.reg [⟨some 342, .p (.mov (.t 40)), none⟩,
    ⟨some 343, .p (.bin .lss (.t 342) (.c (.int .i64 4))), none⟩])
  (.cond (.t 343) .skip (.exit 2)))
  (.seq (.block 3 (.seq (.reg [⟨some 347, .calli (.f 52) [], none⟩,
    ⟨some 348, .p (.mov (.t 40)), none⟩,
    ⟨some 349, .calli (.f 19) [.t 347, .t 348], none⟩,
    ⟨some 346, .p (.mov (.t 349)), none⟩,
    ⟨some 350, .p (.extract (.t 346) 0), none⟩,
    ⟨some 351, .p (.extract (.t 346) 1), none⟩,
    ⟨some 41, .p (.allocL 41 [.int .i64 0, .int .i64 0]), none⟩,
    ⟨none, .p (.storeL 41 2 none (.t 350)), none⟩,
    ⟨some 42, .p (.mov (.t 351)), none⟩])
  (.seq (.reg [⟨some 352, .p (.mov (.t 42)), none⟩,
    ⟨some 353, .p (.bin .neq (.t 352) (.c (.int .i64 0))), none⟩,
    ⟨some 354, .p (.mov (.t 353)), none⟩,
    ⟨some 355, .p (.loadL 41 2 true none), (some (354, false))⟩,
    ⟨some 356, .p (.mov (.t 39)), (some (354, false))⟩,
    ⟨some 357, .p (.mov (.t 40)), (some (354, false))⟩,
    ⟨some 358, .p (.iaddr none 2 (.t 356) (.t 357)), (some (354, false))⟩,
    ⟨some 359, .p (.loadC 2 true (.t 358)), (some (354, false))⟩,
    ⟨some 360, .p (.eqn (some 2) true (.t 355) (.t 359)), (some (354, false))⟩,
    ⟨some 361, .p (.pick (.t 354) (.c (.bool true)) (.t 360)), none⟩])
  (.cond (.t 361) (.seq (.reg [⟨some 0, .p (.mov (.c (.bool false))), none⟩])
  .ret) .skip))))
  (.reg [⟨some 344, .p (.mov (.t 40)), none⟩,
    ⟨some 345, .p (.bin .add (.t 344) (.c (.int .i64 1))), none⟩,
    ⟨some 40, .p (.mov (.t 345)), none⟩])))
def g14_macadamlaw03_StoneKnown_r3 : ACode := (.seq (.reg [⟨some 363, .calli (.f 54) [], none⟩,
    ⟨some 364, .calli (.f 19) [.t 363, .c (.int .i64 3)], none⟩,
    ⟨some 362, .p (.mov (.t 364)), none⟩,
    ⟨some 365, .p (.extract (.t 362) 0), none⟩,
    ⟨some 366, .p (.extract (.t 362) 1), none⟩,
    ⟨some 43, .p (.allocL 43 [.int .i64 0, .int .i64 0]), none⟩,
    ⟨none, .p (.storeL 43 2 none (.t 365)), none⟩,
    ⟨some 20, .p (.mov (.t 366)), none⟩])
  (.seq (.reg [⟨some 368, .calli (.f 52) [], none⟩,
    ⟨some 369, .calli (.f 21) [.t 368, .c (.int .i64 0), .c (.int .i64 0)], none⟩,
    ⟨some 367, .p (.mov (.t 369)), none⟩,
    ⟨some 370, .p (.extract (.t 367) 0), none⟩,
    ⟨some 371, .p (.extract (.t 367) 1), none⟩,
    ⟨some 44, .p (.allocL 44 [.int .i64 0, .int .i64 0]), none⟩,
    ⟨none, .p (.storeL 44 2 none (.t 370)), none⟩,
    ⟨some 22, .p (.mov (.t 371)), none⟩])
  (.seq (.reg [⟨some 373, .calli (.f 52) [], none⟩,
    ⟨some 374, .calli (.f 21) [.t 373, .c (.int .i64 1), .c (.int .i64 4)], none⟩,
    ⟨some 372, .p (.mov (.t 374)), none⟩,
    ⟨some 375, .p (.extract (.t 372) 0), none⟩,
    ⟨some 376, .p (.extract (.t 372) 1), none⟩,
    ⟨some 45, .p (.allocL 45 [.int .i64 0, .int .i64 0]), none⟩,
    ⟨none, .p (.storeL 45 2 none (.t 375)), none⟩,
    ⟨some 24, .p (.mov (.t 376)), none⟩])
  (.seq (.reg [⟨some 378, .calli (.f 52) [], none⟩,
    ⟨some 379, .calli (.f 26) [.t 378, .c (.int .i64 0), .c (.int .i64 1)], none⟩,
    ⟨some 377, .p (.mov (.t 379)), none⟩,
    ⟨some 380, .p (.extract (.t 377) 0), none⟩,
    ⟨some 381, .p (.extract (.t 377) 1), none⟩,
    ⟨some 46, .p (.allocL 46 [.int .i64 0, .int .i64 0]), none⟩,
    ⟨none, .p (.storeL 46 2 none (.t 380)), none⟩,
    ⟨some 26, .p (.mov (.t 381)), none⟩])
  (.seq (.reg [⟨some 383, .calli (.f 52) [], none⟩,
    ⟨some 384, .calli (.f 31) [.t 383, .c (.int .i64 1), .c (.int .i64 4)], none⟩,
    ⟨some 382, .p (.mov (.t 384)), none⟩,
    ⟨some 385, .p (.extract (.t 382) 0), none⟩,
    ⟨some 386, .p (.extract (.t 382) 1), none⟩,
    ⟨some 47, .p (.mov (.t 385)), none⟩,
    ⟨some 28, .p (.mov (.t 386)), none⟩])
  (.seq (.reg [⟨some 388, .calli (.f 52) [], none⟩,
    ⟨some 389, .calli (.f 31) [.t 388, .c (.int .i64 2), .c (.int .i64 3)], none⟩,
    ⟨some 387, .p (.mov (.t 389)), none⟩,
    ⟨some 390, .p (.extract (.t 387) 0), none⟩,
    ⟨some 391, .p (.extract (.t 387) 1), none⟩,
    ⟨some 48, .p (.mov (.t 390)), none⟩,
    ⟨some 30, .p (.mov (.t 391)), none⟩])
  (.seq (.reg [⟨some 393, .calli (.f 52) [], none⟩,
    ⟨some 394, .calli (.f 28) [.t 393], none⟩,
    ⟨some 392, .p (.mov (.t 394)), none⟩,
    ⟨some 395, .p (.extract (.t 392) 0), none⟩,
    ⟨some 396, .p (.extract (.t 392) 1), none⟩,
    ⟨some 49, .p (.mov (.t 395)), none⟩,
    ⟨some 32, .p (.mov (.t 396)), none⟩])
  (.seq (.reg [⟨some 398, .calli (.f 53) [], none⟩,
    ⟨some 399, .calli (.f 15) [.t 398], none⟩,
    ⟨some 397, .p (.mov (.t 399)), none⟩,
    ⟨some 400, .p (.extract (.t 397) 0), none⟩,
    ⟨some 401, .p (.extract (.t 397) 1), none⟩,
    ⟨some 50, .p (.mov (.t 400)), none⟩,
    ⟨some 34, .p (.mov (.t 401)), none⟩])
  (.seq (.reg [⟨some 403, .calli (.f 52) [], none⟩,
    ⟨some 404, .calli (.f 33) [.t 403], none⟩,
    ⟨some 402, .p (.mov (.t 404)), none⟩,
    ⟨some 405, .p (.extract (.t 402) 0), none⟩,
    ⟨some 406, .p (.extract (.t 402) 1), none⟩,
    ⟨some 51, .p (.mov (.t 405)), none⟩,
    ⟨some 36, .p (.mov (.t 406)), none⟩])
  (.seq (.reg [⟨some 407, .calli (.f 41) [.c (.int .i64 1)], none⟩,
    ⟨some 408, .p (.build [.int .i64 0, .int .i64 0, .int .i64 0, .int .i64 0] [(2, 2, .t 407)]), none⟩,
    ⟨some 409, .p (.bslice 4 [.int .i64 0, .int .i64 0, .int .i64 0, .int .i64 0] 1 [(0, .t 408)]), none⟩,
    ⟨some 410, .p (.build [.sl [] .exact, .sl [] .exact, .int .i64 0, .int .i64 0, .int .i64 0, .int .i64 0] [(0, 1, .t 409)]), none⟩,
    ⟨some 52, .p (.allocL 52 [.sl [] .exact, .sl [] .exact, .int .i64 0, .int .i64 0, .int .i64 0, .int .i64 0]), none⟩,
    ⟨none, .p (.storeL 52 6 none (.t 410)), none⟩])
  (.seq (.reg [⟨some 412, .p (.loadL 52 6 true none), none⟩,
    ⟨some 413, .calli (.f 33) [.t 412], none⟩,
    ⟨some 411, .p (.mov (.t 413)), none⟩,
    ⟨some 414, .p (.extract (.t 411) 0), none⟩,
    ⟨some 415, .p (.extract (.t 411) 1), none⟩,
    ⟨some 38, .p (.mov (.t 415)), none⟩])
  (.seq (.reg [⟨some 416, .p (.mov (.t 20)), none⟩,
    ⟨some 417, .p (.bin .eql (.t 416) (.c (.int .i64 0))), none⟩,
    ⟨some 418, .p (.mov (.t 417)), none⟩,
    ⟨some 419, .p (.loadL 43 2 true none), (some (418, true))⟩,
    ⟨some 420, .calli (.f 41) [.c (.int .i64 5)], (some (418, true))⟩,
    ⟨some 421, .p (.eqn (some 2) false (.t 419) (.t 420)), (some (418, true))⟩,
    ⟨some 422, .p (.pick (.t 418) (.t 421) (.c (.bool false))), none⟩,
    ⟨some 423, .p (.mov (.t 422)), none⟩,
    ⟨some 424, .p (.mov (.t 22)), (some (423, true))⟩,
    ⟨some 425, .p (.bin .eql (.t 424) (.c (.int .i64 0))), (some (423, true))⟩,
    ⟨some 426, .p (.pick (.t 423) (.t 425) (.c (.bool false))), none⟩,
    ⟨some 427, .p (.mov (.t 426)), none⟩,
    ⟨some 428, .p (.loadL 44 2 true none), (some (427, true))⟩,
    ⟨some 429, .calli (.f 44) [.c (.int .i64 10), .c (.int .i64 11)], (some (427, true))⟩,
    ⟨some 430, .p (.eqn (some 2) false (.t 428) (.t 429)), (some (427, true))⟩,
    ⟨some 431, .p (.pick (.t 427) (.t 430) (.c (.bool false))), none⟩,
    ⟨some 432, .p (.mov (.t 431)), none⟩,
    ⟨some 433, .p (.mov (.t 24)), (some (432, true))⟩,
    ⟨some 434, .p (.bin .eql (.t 433) (.c (.int .i64 0))), (some (432, true))⟩,
    ⟨some 435, .p (.pick (.t 432) (.t 434) (.c (.bool false))), none⟩,
    ⟨some 436, .p (.mov (.t 435)), none⟩,
    ⟨some 437, .p (.loadL 45 2 true none), (some (436, true))⟩,
    ⟨some 438, .calli (.f 44) [.c (.int .i64 4), .c (.int .i64 6)], (some (436, true))⟩,
    ⟨some 439, .p (.eqn (some 2) false (.t 437) (.t 438)), (some (436, true))⟩,
    ⟨some 440, .p (.pick (.t 436) (.t 439) (.c (.bool false))), none⟩,
    ⟨some 441, .p (.mov (.t 440)), none⟩,
    ⟨some 442, .p (.mov (.t 26)), (some (441, true))⟩,
    ⟨some 443, .p (.bin .eql (.t 442) (.c (.int .i64 0))), (some (441, true))⟩,
    ⟨some 444, .p (.pick (.t 441) (.t 443) (.c (.bool false))), none⟩,
    ⟨some 445, .p (.mov (.t 444)), none⟩,
    ⟨some 446, .p (.loadL 46 2 true none), (some (445, true))⟩,
    ⟨some 447, .calli (.f 44) [.c (.int .i64 8), .c (.int .i64 10)], (some (445, true))⟩,
    ⟨some 448, .p (.eqn (some 2) false (.t 446) (.t 447)), (some (445, true))⟩,
    ⟨some 449, .p (.pick (.t 445) (.t 448) (.c (.bool false))), none⟩,
    ⟨some 450, .p (.mov (.t 449)), none⟩,
    ⟨some 451, .p (.mov (.t 28)), (some (450, true))⟩,
    ⟨some 452, .p (.bin .eql (.t 451) (.c (.int .i64 0))), (some (450, true))⟩,
    ⟨some 453, .p (.pick (.t 450) (.t 452) (.c (.bool false))), none⟩,
    ⟨some 454, .p (.mov (.t 453)), none⟩,
    ⟨some 455, .p (.mov (.t 47)), (some (454, true))⟩,
    ⟨some 456, .p (.un .not (.t 455)), (some (454, true))⟩,
    ⟨some 457, .p (.pick (.t 454) (.t 456) (.c (.bool false))), none⟩,
    ⟨some 458, .p (.mov (.t 457)), none⟩,
    ⟨some 459, .p (.mov (.t 30)), (some (458, true))⟩,
    ⟨some 460, .p (.bin .eql (.t 459) (.c (.int .i64 0))), (some (458, true))⟩,
    ⟨some 461, .p (.pick (.t 458) (.t 460) (.c (.bool false))), none⟩,
    ⟨some 462, .p (.mov (.t 461)), none⟩,
    ⟨some 463, .p (.mov (.t 48)), (some (462, true))⟩,
    ⟨some 464, .p (.un .not (.t 463)), (some (462, true))⟩,
    ⟨some 465, .p (.pick (.t 462) (.t 464) (.c (.bool false))), none⟩,
    ⟨some 466, .p (.mov (.t 465)), none⟩,
    ⟨some 467, .p (.mov (.t 32)), (some (466, true))⟩,
    ⟨some 468, .p (.bin .eql (.t 467) (.c (.int .i64 0))), (some (466, true))⟩,
    ⟨some 469, .p (.pick (.t 466) (.t 468) (.c (.bool false))), none⟩,
    ⟨some 470, .p (.mov (.t 469)), none⟩,
    ⟨some 471, .p (.mov (.t 49)), (some (470, true))⟩,
    ⟨some 472, .p (.len (.t 471)), (some (470, true))⟩,
    ⟨some 473, .p (.bin .eql (.t 472) (.c (.int .i64 0))), (some (470, true))⟩,
    ⟨some 474, .p (.pick (.t 470) (.t 473) (.c (.bool false))), none⟩,
    ⟨some 475, .p (.mov (.t 474)), none⟩,
    ⟨some 476, .p (.mov (.t 34)), (some (475, true))⟩,
    ⟨some 477, .p (.bin .eql (.t 476) (.c (.int .i64 0))), (some (475, true))⟩,
    ⟨some 478, .p (.pick (.t 475) (.t 477) (.c (.bool false))), none⟩,
    ⟨some 479, .p (.mov (.t 478)), none⟩,
    ⟨some 480, .p (.mov (.t 50)), (some (479, true))⟩,
    ⟨some 481, .p (.un .not (.t 480)), (some (479, true))⟩,
    ⟨some 482, .p (.pick (.t 479) (.t 481) (.c (.bool false))), none⟩,
    ⟨some 483, .p (.mov (.t 482)), none⟩,
    ⟨some 484, .p (.mov (.t 36)), (some (483, true))⟩,
    ⟨some 485, .p (.bin .eql (.t 484) (.c (.int .i64 0))), (some (483, true))⟩,
    ⟨some 486, .p (.pick (.t 483) (.t 485) (.c (.bool false))), none⟩,
    ⟨some 487, .p (.mov (.t 486)), none⟩,
    ⟨some 488, .p (.mov (.t 51)), (some (487, true))⟩,
    ⟨some 489, .p (.len (.t 488)), (some (487, true))⟩,
    ⟨some 490, .p (.bin .eql (.t 489) (.c (.int .i64 0))), (some (487, true))⟩,
    ⟨some 491, .p (.pick (.t 487) (.t 490) (.c (.bool false))), none⟩,
    ⟨some 492, .p (.mov (.t 491)), none⟩,
    ⟨some 493, .p (.mov (.t 38)), (some (492, true))⟩,
    ⟨some 494, .p (.bin .eql (.t 493) (.c (.int .i64 32))), (some (492, true))⟩,
    ⟨some 495, .p (.pick (.t 492) (.t 494) (.c (.bool false))), none⟩,
    ⟨some 496, .p (.mov (.t 495)), none⟩,
    ⟨some 497, .p (.pick (.t 496) (.c (.bool true)) (.c (.bool false))), none⟩,
    ⟨some 498, .p (.mov (.t 497)), none⟩,
    ⟨some 499, .calli (.f 23) [], (some (498, true))⟩,
    ⟨some 500, .p (.pick (.t 498) (.t 499) (.c (.bool false))), none⟩,
    ⟨some 0, .p (.mov (.t 500)), none⟩])
  .ret))))))))))))
def g14_macadamlaw03_StoneKnown_r2 : ACode := (.seq (.reg [⟨some 337, .calli (.f 44) [.c (.int .i64 3), .c (.int .i64 4)], none⟩,
    ⟨some 338, .calli (.f 44) [.c (.int .i64 5), .c (.int .i64 6)], none⟩,
    ⟨some 339, .calli (.f 44) [.c (.int .i64 4), .c (.int .i64 5)], none⟩,
    ⟨some 340, .calli (.f 44) [.c (.int .i64 5), .c (.int .i64 6)], none⟩,
    ⟨some 341, .p (.bslice 2 [.int .i64 0, .int .i64 0] 4 [(0, .t 337), (1, .t 338), (2, .t 339), (3, .t 340)]), none⟩,
    ⟨some 39, .p (.mov (.t 341)), none⟩])
  (.seq (.seq (.reg [⟨some 40, .p (.mov (.c (.int .i64 0))), none⟩])
  (.block 2 (.loop g14_macadamlaw03_StoneKnown_l1)))
  g14_macadamlaw03_StoneKnown_r3))
def g14_macadamlaw03_StoneKnown_r1 : ACode := (.seq (.reg [⟨some 250, .calli (.f 53) [], none⟩,
    ⟨some 251, .calli (.f 19) [.t 250, .c (.int .i64 4)], none⟩,
    ⟨some 249, .p (.mov (.t 251)), none⟩,
    ⟨some 252, .p (.extract (.t 249) 0), none⟩,
    ⟨some 253, .p (.extract (.t 249) 1), none⟩,
    ⟨some 19, .p (.allocL 19 [.int .i64 0, .int .i64 0]), none⟩,
    ⟨none, .p (.storeL 19 2 none (.t 252)), none⟩,
    ⟨some 20, .p (.mov (.t 253)), none⟩])
  (.seq (.reg [⟨some 255, .calli (.f 53) [], none⟩,
    ⟨some 256, .calli (.f 21) [.t 255, .c (.int .i64 2), .c (.int .i64 0)], none⟩,
    ⟨some 254, .p (.mov (.t 256)), none⟩,
    ⟨some 257, .p (.extract (.t 254) 0), none⟩,
    ⟨some 258, .p (.extract (.t 254) 1), none⟩,
    ⟨some 21, .p (.allocL 21 [.int .i64 0, .int .i64 0]), none⟩,
    ⟨none, .p (.storeL 21 2 none (.t 257)), none⟩,
    ⟨some 22, .p (.mov (.t 258)), none⟩])
  (.seq (.reg [⟨some 260, .calli (.f 53) [], none⟩,
    ⟨some 261, .calli (.f 21) [.t 260, .c (.int .i64 0), .c (.int .i64 5)], none⟩,
    ⟨some 259, .p (.mov (.t 261)), none⟩,
    ⟨some 262, .p (.extract (.t 259) 0), none⟩,
    ⟨some 263, .p (.extract (.t 259) 1), none⟩,
    ⟨some 23, .p (.allocL 23 [.int .i64 0, .int .i64 0]), none⟩,
    ⟨none, .p (.storeL 23 2 none (.t 262)), none⟩,
    ⟨some 24, .p (.mov (.t 263)), none⟩])
  (.seq (.reg [⟨some 265, .calli (.f 53) [], none⟩,
    ⟨some 266, .calli (.f 26) [.t 265, .c (.int .i64 4), .c (.int .i64 0)], none⟩,
    ⟨some 264, .p (.mov (.t 266)), none⟩,
    ⟨some 267, .p (.extract (.t 264) 0), none⟩,
    ⟨some 268, .p (.extract (.t 264) 1), none⟩,
    ⟨some 25, .p (.allocL 25 [.int .i64 0, .int .i64 0]), none⟩,
    ⟨none, .p (.storeL 25 2 none (.t 267)), none⟩,
    ⟨some 26, .p (.mov (.t 268)), none⟩])
  (.seq (.reg [⟨some 270, .calli (.f 53) [], none⟩,
    ⟨some 271, .calli (.f 26) [.t 270, .c (.int .i64 0), .c (.int .i64 100)], none⟩,
    ⟨some 269, .p (.mov (.t 271)), none⟩,
    ⟨some 272, .p (.extract (.t 269) 0), none⟩,
    ⟨some 273, .p (.extract (.t 269) 1), none⟩,
    ⟨some 27, .p (.allocL 27 [.int .i64 0, .int .i64 0]), none⟩,
    ⟨none, .p (.storeL 27 2 none (.t 272)), none⟩,
    ⟨some 28, .p (.mov (.t 273)), none⟩])
  (.seq (.reg [⟨some 275, .calli (.f 53) [], none⟩,
    ⟨some 276, .calli (.f 31) [.t 275, .c (.int .i64 0), .c (.int .i64 7)], none⟩,
    ⟨some 274, .p (.mov (.t 276)), none⟩,
    ⟨some 277, .p (.extract (.t 274) 0), none⟩,
    ⟨some 278, .p (.extract (.t 274) 1), none⟩,
    ⟨some 29, .p (.mov (.t 277)), none⟩,
    ⟨some 30, .p (.mov (.t 278)), none⟩])
  (.seq (.reg [⟨some 280, .calli (.f 53) [], none⟩,
    ⟨some 281, .calli (.f 19) [.t 280, .c (.int .i64 0)], none⟩,
    ⟨some 279, .p (.mov (.t 281)), none⟩,
    ⟨some 282, .p (.extract (.t 279) 0), none⟩,
    ⟨some 283, .p (.extract (.t 279) 1), none⟩,
    ⟨some 31, .p (.allocL 31 [.int .i64 0, .int .i64 0]), none⟩,
    ⟨none, .p (.storeL 31 2 none (.t 282)), none⟩,
    ⟨some 32, .p (.mov (.t 283)), none⟩])
  (.seq (.reg [⟨some 285, .calli (.f 53) [], none⟩,
    ⟨some 286, .calli (.f 24) [.t 285], none⟩,
    ⟨some 284, .p (.mov (.t 286)), none⟩,
    ⟨some 287, .p (.extract (.t 284) 0), none⟩,
    ⟨some 288, .p (.extract (.t 284) 1), none⟩,
    ⟨some 33, .p (.allocL 33 [.int .i64 0, .int .i64 0]), none⟩,
    ⟨none, .p (.storeL 33 2 none (.t 287)), none⟩,
    ⟨some 34, .p (.mov (.t 288)), none⟩])
  (.seq (.reg [⟨some 290, .calli (.f 53) [], none⟩,
    ⟨some 291, .calli (.f 28) [.t 290], none⟩,
    ⟨some 289, .p (.mov (.t 291)), none⟩,
    ⟨some 292, .p (.extract (.t 289) 0), none⟩,
    ⟨some 293, .p (.extract (.t 289) 1), none⟩,
    ⟨some 35, .p (.mov (.t 292)), none⟩,
    ⟨some 36, .p (.mov (.t 293)), none⟩])
  (.seq (.reg [⟨some 295, .calli (.f 53) [], none⟩,
    ⟨some 296, .calli (.f 21) [.t 295, .c (.int .i64 0), .c (.int .i64 0)], none⟩,
    ⟨some 294, .p (.mov (.t 296)), none⟩,
    ⟨some 297, .p (.extract (.t 294) 0), none⟩,
    ⟨some 298, .p (.extract (.t 294) 1), none⟩,
    ⟨some 37, .p (.allocL 37 [.int .i64 0, .int .i64 0]), none⟩,
    ⟨none, .p (.storeL 37 2 none (.t 297)), none⟩,
    ⟨some 38, .p (.mov (.t 298)), none⟩])
  (.seq (.seq (.reg [⟨some 299, .p (.mov (.t 20)), none⟩,
    ⟨some 300, .p (.bin .neq (.t 299) (.c (.int .i64 31))), none⟩,
    ⟨some 301, .p (.mov (.t 300)), none⟩,
    ⟨some 302, .p (.mov (.t 22)), (some (301, false))⟩,
    ⟨some 303, .p (.bin .neq (.t 302) (.c (.int .i64 31))), (some (301, false))⟩,
    ⟨some 304, .p (.pick (.t 301) (.c (.bool true)) (.t 303)), none⟩,
    ⟨some 305, .p (.mov (.t 304)), none⟩,
    ⟨some 306, .p (.mov (.t 24)), (some (305, false))⟩,
    ⟨some 307, .p (.bin .neq (.t 306) (.c (.int .i64 31))), (some (305, false))⟩,
    ⟨some 308, .p (.pick (.t 305) (.c (.bool true)) (.t 307)), none⟩,
    ⟨some 309, .p (.mov (.t 308)), none⟩,
    ⟨some 310, .p (.mov (.t 26)), (some (309, false))⟩,
    ⟨some 311, .p (.bin .neq (.t 310) (.c (.int .i64 31))), (some (309, false))⟩,
    ⟨some 312, .p (.pick (.t 309) (.c (.bool true)) (.t 311)), none⟩,
    ⟨some 313, .p (.mov (.t 312)), none⟩,
    ⟨some 314, .p (.mov (.t 28)), (some (313, false))⟩,
    ⟨some 315, .p (.bin .neq (.t 314) (.c (.int .i64 31))), (some (313, false))⟩,
    ⟨some 316, .p (.pick (.t 313) (.c (.bool true)) (.t 315)), none⟩,
    ⟨some 317, .p (.mov (.t 316)), none⟩,
    ⟨some 318, .p (.mov (.t 30)), (some (317, false))⟩,
    ⟨some 319, .p (.bin .neq (.t 318) (.c (.int .i64 31))), (some (317, false))⟩,
    ⟨some 320, .p (.pick (.t 317) (.c (.bool true)) (.t 319)), none⟩,
    ⟨some 321, .p (.mov (.t 320)), none⟩,
    ⟨some 322, .p (.mov (.t 32)), (some (321, false))⟩,
    ⟨some 323, .p (.bin .neq (.t 322) (.c (.int .i64 32))), (some (321, false))⟩,
    ⟨some 324, .p (.pick (.t 321) (.c (.bool true)) (.t 323)), none⟩,
    ⟨some 325, .p (.mov (.t 324)), none⟩,
    ⟨some 326, .p (.mov (.t 34)), (some (325, false))⟩,
    ⟨some 327, .p (.bin .neq (.t 326) (.c (.int .i64 32))), (some (325, false))⟩,
    ⟨some 328, .p (.pick (.t 325) (.c (.bool true)) (.t 327)), none⟩,
    ⟨some 329, .p (.mov (.t 328)), none⟩,
    ⟨some 330, .p (.mov (.t 36)), (some (329, false))⟩,
    ⟨some 331, .p (.bin .neq (.t 330) (.c (.int .i64 32))), (some (329, false))⟩,
    ⟨some 332, .p (.pick (.t 329) (.c (.bool true)) (.t 331)), none⟩,
    ⟨some 333, .p (.mov (.t 332)), none⟩,
    ⟨some 334, .p (.mov (.t 38)), (some (333, false))⟩,
    ⟨some 335, .p (.bin .neq (.t 334) (.c (.int .i64 32))), (some (333, false))⟩,
    ⟨some 336, .p (.pick (.t 333) (.c (.bool true)) (.t 335)), none⟩])
  (.cond (.t 336) (.seq (.reg [⟨some 0, .p (.mov (.c (.bool false))), none⟩])
  .ret) .skip))
  g14_macadamlaw03_StoneKnown_r2)))))))))))
def g14_macadamlaw03_StoneKnown_r0 : ACode := (.seq (.seq (.reg [⟨some 2, .p (.mov (.c (.int .i64 0))), none⟩])
  (.block 0 (.loop g14_macadamlaw03_StoneKnown_l0)))
  g14_macadamlaw03_StoneKnown_r1)
def g14_macadamlaw03_StoneKnown_c : ACode := (.seq (.reg [⟨some 0, .p (.mov (.c (.bool false))), none⟩])
  (.seq (.reg [⟨some 53, .p (.build [.sl [] .exact, .sl [] .exact, .int .i64 0, .int .i64 0, .int .i64 0, .int .i64 0] []), none⟩,
    ⟨some 54, .call (.f 1052) [], none⟩,
    ⟨some 55, .call (.f 1052) [], none⟩,
    ⟨some 56, .call (.f 1052) [], none⟩,
    ⟨some 57, .call (.f 1052) [], none⟩,
    ⟨some 58, .call (.f 1052) [], none⟩,
    ⟨some 59, .call (.f 2052) [], none⟩,
    ⟨some 60, .call (.f 2052) [], none⟩,
    ⟨some 61, .call (.f 2052) [], none⟩,
    ⟨some 62, .call (.f 2052) [], none⟩,
    ⟨some 63, .call (.f 1052) [], none⟩,
    ⟨some 64, .call (.f 1052) [], none⟩,
    ⟨some 65, .call (.f 2052) [], none⟩,
    ⟨some 66, .h (.bsliceM 6 [.sl [] .exact, .sl [] .exact, .int .i64 0, .int .i64 0, .int .i64 0, .int .i64 0] 13 [(0, .t 53), (1, .t 54), (2, .t 55), (3, .t 56), (4, .t 57), (5, .t 58), (6, .t 59), (7, .t 60), (8, .t 61), (9, .t 62), (10, .t 63), (11, .t 64), (12, .t 65)]), none⟩,
    ⟨some 1, .p (.mov (.t 66)), none⟩])
  (.seq (.reg [⟨some 67, .p (.mov (.t 1)), none⟩,
    ⟨some 68, .p (.mov (.t 1)), none⟩,
    ⟨some 69, .p (.iaddr none 6 (.t 68) (.c (.int .i64 1))), none⟩,
    ⟨some 70, .p (.faddr 0 (.t 69)), none⟩,
    ⟨some 71, .h (.load 1 false (.t 70)), none⟩,
    ⟨some 72, .h (.appendZ 4 32 [.int .i64 0, .int .i64 0, .int .i64 0, .int .i64 0] (.t 71) 3), none⟩,
    ⟨some 73, .p (.iaddr none 6 (.t 67) (.c (.int .i64 1))), none⟩,
    ⟨some 74, .p (.faddr 0 (.t 73)), none⟩,
    ⟨none, .h (.store 1 (.t 74) (.t 72)), none⟩])
  (.seq (.reg [⟨some 75, .p (.mov (.t 1)), none⟩,
    ⟨some 76, .p (.iaddr none 6 (.t 75) (.c (.int .i64 2))), none⟩,
    ⟨some 77, .p (.faddr 0 (.t 76)), none⟩,
    ⟨some 78, .h (.load 1 false (.t 77)), none⟩,
    ⟨some 79, .calli (.f 44) [.c (.int .i64 10), .c (.int .i64 15)], none⟩,
    ⟨some 80, .p (.iaddr none 4 (.t 78) (.c (.int .i64 0))), none⟩,
    ⟨some 81, .p (.faddr 0 (.t 80)), none⟩,
    ⟨none, .h (.store 2 (.t 81) (.t 79)), none⟩])
  (.seq (.reg [⟨some 82, .p (.mov (.t 1)), none⟩,
    ⟨some 83, .p (.iaddr none 6 (.t 82) (.c (.int .i64 3))), none⟩,
    ⟨some 84, .p (.faddr 0 (.t 83)), none⟩,
    ⟨some 85, .h (.load 1 false (.t 84)), none⟩,
    ⟨some 86, .calli (.f 41) [.c (.int .i64 61)], none⟩,
    ⟨some 87, .p (.iaddr none 4 (.t 85) (.c (.int .i64 0))), none⟩,
    ⟨some 88, .p (.faddr 0 (.t 87)), none⟩,
    ⟨none, .h (.store 2 (.t 88) (.t 86)), none⟩])
  (.seq (.reg [⟨some 89, .p (.mov (.t 1)), none⟩,
    ⟨some 90, .p (.iaddr none 6 (.t 89) (.c (.int .i64 4))), none⟩,
    ⟨some 91, .p (.faddr 0 (.t 90)), none⟩,
    ⟨some 92, .h (.load 1 false (.t 91)), none⟩,
    ⟨some 93, .calli (.f 44) [.c (.int .i64 0), .c (.int .i64 100)], none⟩,
    ⟨some 94, .p (.iaddr none 4 (.t 92) (.c (.int .i64 0))), none⟩,
    ⟨some 95, .p (.faddr 2 (.t 94)), none⟩,
    ⟨none, .h (.store 2 (.t 95) (.t 93)), none⟩])
  (.seq (.reg [⟨some 96, .p (.mov (.t 1)), none⟩,
    ⟨some 97, .p (.iaddr none 6 (.t 96) (.c (.int .i64 5))), none⟩,
    ⟨some 98, .p (.faddr 0 (.t 97)), none⟩,
    ⟨some 99, .h (.load 1 false (.t 98)), none⟩,
    ⟨some 100, .calli (.f 44) [.c (.int .i64 3), .c (.int .i64 2)], none⟩,
    ⟨some 101, .p (.iaddr none 4 (.t 99) (.c (.int .i64 0))), none⟩,
    ⟨some 102, .p (.faddr 2 (.t 101)), none⟩,
    ⟨none, .h (.store 2 (.t 102) (.t 100)), none⟩])
  (.seq (.reg [⟨some 103, .p (.mov (.t 1)), none⟩,
    ⟨some 104, .p (.iaddr none 6 (.t 103) (.c (.int .i64 6))), none⟩,
    ⟨some 105, .p (.faddr 1 (.t 104)), none⟩,
    ⟨some 106, .h (.load 1 false (.t 105)), none⟩,
    ⟨some 107, .p (.iaddr none 4 (.t 106) (.c (.int .i64 0))), none⟩,
    ⟨some 108, .p (.faddr 0 (.t 107)), none⟩,
    ⟨none, .h (.store 1 (.t 108) (.c (.int .i64 2))), none⟩])
  (.seq (.reg [⟨some 109, .p (.mov (.t 1)), none⟩,
    ⟨some 110, .p (.iaddr none 6 (.t 109) (.c (.int .i64 7))), none⟩,
    ⟨some 111, .p (.faddr 1 (.t 110)), none⟩,
    ⟨some 112, .h (.load 1 false (.t 111)), none⟩,
    ⟨some 113, .p (.iaddr none 4 (.t 112) (.c (.int .i64 0))), none⟩,
    ⟨some 114, .p (.faddr 0 (.t 113)), none⟩,
    ⟨none, .h (.store 1 (.t 114) (.c (.int .i64 0))), none⟩])
  (.seq (.reg [⟨some 115, .p (.mov (.t 1)), none⟩,
    ⟨some 116, .p (.iaddr none 6 (.t 115) (.c (.int .i64 8))), none⟩,
    ⟨some 117, .p (.faddr 1 (.t 116)), none⟩,
    ⟨some 118, .h (.load 1 false (.t 117)), none⟩,
    ⟨some 119, .p (.iaddr none 4 (.t 118) (.c (.int .i64 1))), none⟩,
    ⟨some 120, .p (.faddr 2 (.t 119)), none⟩,
    ⟨none, .h (.store 1 (.t 120) (.c (.int .i64 4))), none⟩])
  (.seq (.reg [⟨some 121, .p (.mov (.t 1)), none⟩,
    ⟨some 122, .p (.iaddr none 6 (.t 121) (.c (.int .i64 9))), none⟩,
    ⟨some 123, .p (.faddr 1 (.t 122)), none⟩,
    ⟨some 124, .h (.load 1 false (.t 123)), none⟩,
    ⟨some 125, .p (.iaddr none 4 (.t 124) (.c (.int .i64 1))), none⟩,
    ⟨some 126, .p (.faddr 3 (.t 125)), none⟩,
    ⟨none, .h (.store 1 (.t 126) (.c (.int .i64 7))), none⟩])
  (.seq (.reg [⟨some 127, .p (.mov (.t 1)), none⟩,
    ⟨some 128, .p (.iaddr none 6 (.t 127) (.c (.int .i64 10))), none⟩,
    ⟨some 129, .p (.faddr 2 (.t 128)), none⟩,
    ⟨some 130, .p (.iaddr (some 4) 1 (.t 129) (.c (.int .i64 0))), none⟩,
    ⟨none, .h (.store 1 (.t 130) (.c (.int .i64 3))), none⟩])
  (.seq (.reg [⟨some 131, .p (.mov (.t 1)), none⟩,
    ⟨some 132, .h (.mslice 4 [.int .i64 0, .int .i64 0, .int .i64 0, .int .i64 0] (.c (.int .i64 6)) (.c (.int .i64 6))), none⟩,
    ⟨some 133, .p (.iaddr none 6 (.t 131) (.c (.int .i64 11))), none⟩,
    ⟨some 134, .p (.faddr 1 (.t 133)), none⟩,
    ⟨none, .h (.store 1 (.t 134) (.t 132)), none⟩])
  (.seq (.reg [⟨some 135, .p (.mov (.t 1)), none⟩,
    ⟨some 136, .p (.iaddr none 6 (.t 135) (.c (.int .i64 12))), none⟩,
    ⟨some 137, .p (.faddr 1 (.t 136)), none⟩,
    ⟨some 138, .h (.load 1 false (.t 137)), none⟩,
    ⟨some 139, .p (.iaddr none 4 (.t 138) (.c (.int .i64 2))), none⟩,
    ⟨some 140, .p (.faddr 1 (.t 139)), none⟩,
    ⟨none, .h (.store 1 (.t 140) (.c (.int .i64 (-2)))), none⟩])
  g14_macadamlaw03_StoneKnown_r0))))))))))))))
def g14_macadamlaw03_StoneKnown : AFn := ⟨g14_macadamlaw03_StoneKnown_c, [.t 0], 0⟩

/-- macadam/macadamlaw03.own, heaps in memory -/
def g1052_macadamlaw03_own_c : ACode := (.seq (.reg [⟨some 0, .p (.allocL 0 [.sl [] .exact, .sl [] .exact, .int .i64 0, .int .i64 0, .int .i64 0, .int .i64 0]), none⟩])
  (.seq (.reg [⟨some 1, .calli (.f 44) [.c (.int .i64 4), .c (.int .i64 6)], none⟩,
    ⟨some 2, .call (.f 1089) [.t 1], none⟩,
    ⟨none, .p (.storeL 0 6 none (.t 2)), none⟩])
  .ret))
def g1052_macadamlaw03_own : AFn := ⟨g1052_macadamlaw03_own_c, [.cellL 0 6 true], 0⟩

/-- macadam/macadamlaw03.book, heaps in memory -/
def g1089_macadamlaw03_book_c : ACode := (.seq (.reg [⟨some 1, .p (.boxL 1 (.t 0)), none⟩,
    ⟨some 2, .p (.allocL 2 [.sl [] .exact, .sl [] .exact, .int .i64 0, .int .i64 0, .int .i64 0, .int .i64 0]), none⟩])
  (.seq (.reg [⟨some 3, .calli (.f 44) [.c (.int .i64 10), .c (.int .i64 12)], none⟩,
    ⟨some 4, .calli (.f 44) [.c (.int .i64 2), .c (.int .i64 3)], none⟩,
    ⟨some 5, .p (.build [.int .i64 0, .int .i64 0, .int .i64 0, .int .i64 0] [(0, 2, .t 3), (2, 2, .t 4)]), none⟩,
    ⟨some 6, .calli (.f 41) [.c (.int .i64 5)], none⟩,
    ⟨some 7, .p (.loadL 1 2 true none), none⟩,
    ⟨some 8, .p (.build [.int .i64 0, .int .i64 0, .int .i64 0, .int .i64 0] [(0, 2, .t 6), (2, 2, .t 7)]), none⟩,
    ⟨some 9, .h (.bsliceM 4 [.int .i64 0, .int .i64 0, .int .i64 0, .int .i64 0] 2 [(0, .t 5), (1, .t 8)]), none⟩,
    ⟨some 10, .calli (.f 101) [.c (.int .i64 (-1)), .c (.int .i64 0), .c (.int .i64 0), .c (.int .i64 4)], none⟩,
    ⟨some 11, .calli (.f 101) [.c (.int .i64 0), .c (.int .i64 1), .c (.int .i64 1), .c (.int .i64 6)], none⟩,
    ⟨some 12, .calli (.f 101) [.c (.int .i64 0), .c (.int .i64 (-1)), .c (.int .i64 1), .c (.int .i64 5)], none⟩,
    ⟨some 13, .calli (.f 101) [.c (.int .i64 1), .c (.int .i64 (-1)), .c (.int .i64 0), .c (.int .i64 6)], none⟩,
    ⟨some 14, .p (.bslice 4 [.int .i64 0, .int .i64 0, .int .i64 0, .int .i64 0] 4 [(0, .t 10), (1, .t 11), (2, .t 12), (3, .t 13)]), none⟩,
    ⟨some 15, .p (.build [.int .i64 0, .int .i64 0, .int .i64 0, .int .i64 0] [(0, 1, .c (.int .i64 1)), (1, 1, .c (.int .i64 2)), (2, 1, .c (.int .i64 0)), (3, 1, .c (.int .i64 0))]), none⟩,
    ⟨some 16, .p (.build [.sl [] .exact, .sl [] .exact, .int .i64 0, .int .i64 0, .int .i64 0, .int .i64 0] [(0, 1, .t 9), (1, 1, .t 14), (2, 4, .t 15)]), none⟩,
    ⟨none, .p (.storeL 2 6 none (.t 16)), none⟩])
  .ret))
def g1089_macadamlaw03_book : AFn := ⟨g1089_macadamlaw03_book_c, [.cellL 2 6 true], 1⟩

/-- macadam/macadamlaw03.own, loads in memory -/
def g2052_macadamlaw03_own_c : ACode := (.seq (.reg [⟨some 0, .p (.allocL 0 [.sl [] .exact, .sl [] .exact, .int .i64 0, .int .i64 0, .int .i64 0, .int .i64 0]), none⟩])
  (.seq (.reg [⟨some 1, .calli (.f 44) [.c (.int .i64 4), .c (.int .i64 6)], none⟩,
    ⟨some 2, .call (.f 2089) [.t 1], none⟩,
    ⟨none, .p (.storeL 0 6 none (.t 2)), none⟩])
  .ret))
def g2052_macadamlaw03_own : AFn := ⟨g2052_macadamlaw03_own_c, [.cellL 0 6 true], 0⟩

/-- macadam/macadamlaw03.book, loads in memory -/
def g2089_macadamlaw03_book_c : ACode := (.seq (.reg [⟨some 1, .p (.boxL 1 (.t 0)), none⟩,
    ⟨some 2, .p (.allocL 2 [.sl [] .exact, .sl [] .exact, .int .i64 0, .int .i64 0, .int .i64 0, .int .i64 0]), none⟩])
  (.seq (.reg [⟨some 3, .calli (.f 44) [.c (.int .i64 10), .c (.int .i64 12)], none⟩,
    ⟨some 4, .calli (.f 44) [.c (.int .i64 2), .c (.int .i64 3)], none⟩,
    ⟨some 5, .p (.build [.int .i64 0, .int .i64 0, .int .i64 0, .int .i64 0] [(0, 2, .t 3), (2, 2, .t 4)]), none⟩,
    ⟨some 6, .calli (.f 41) [.c (.int .i64 5)], none⟩,
    ⟨some 7, .p (.loadL 1 2 true none), none⟩,
    ⟨some 8, .p (.build [.int .i64 0, .int .i64 0, .int .i64 0, .int .i64 0] [(0, 2, .t 6), (2, 2, .t 7)]), none⟩,
    ⟨some 9, .p (.bslice 4 [.int .i64 0, .int .i64 0, .int .i64 0, .int .i64 0] 2 [(0, .t 5), (1, .t 8)]), none⟩,
    ⟨some 10, .calli (.f 101) [.c (.int .i64 (-1)), .c (.int .i64 0), .c (.int .i64 0), .c (.int .i64 4)], none⟩,
    ⟨some 11, .calli (.f 101) [.c (.int .i64 0), .c (.int .i64 1), .c (.int .i64 1), .c (.int .i64 6)], none⟩,
    ⟨some 12, .calli (.f 101) [.c (.int .i64 0), .c (.int .i64 (-1)), .c (.int .i64 1), .c (.int .i64 5)], none⟩,
    ⟨some 13, .calli (.f 101) [.c (.int .i64 1), .c (.int .i64 (-1)), .c (.int .i64 0), .c (.int .i64 6)], none⟩,
    ⟨some 14, .h (.bsliceM 4 [.int .i64 0, .int .i64 0, .int .i64 0, .int .i64 0] 4 [(0, .t 10), (1, .t 11), (2, .t 12), (3, .t 13)]), none⟩,
    ⟨some 15, .p (.build [.int .i64 0, .int .i64 0, .int .i64 0, .int .i64 0] [(0, 1, .c (.int .i64 1)), (1, 1, .c (.int .i64 2)), (2, 1, .c (.int .i64 0)), (3, 1, .c (.int .i64 0))]), none⟩,
    ⟨some 16, .p (.build [.sl [] .exact, .sl [] .exact, .int .i64 0, .int .i64 0, .int .i64 0, .int .i64 0] [(0, 1, .t 9), (1, 1, .t 14), (2, 4, .t 15)]), none⟩,
    ⟨none, .p (.storeL 2 6 none (.t 16)), none⟩])
  .ret))
def g2089_macadamlaw03_book : AFn := ⟨g2089_macadamlaw03_book_c, [.cellL 2 6 true], 1⟩

end Av
end

section
/- The lowered program as a table. -/
namespace Av
open Go
def tbl : List (Option AFn) := [none, none, none, some g3_macadamlaw03_StoneYards, some g4_macadamlaw03_StoneOwes, some g5_macadamlaw03_StoneFits, some g6_macadamlaw03_StoneTrue, some g7_macadamlaw03_StoneEach, some g8_macadamlaw03_StoneHeap, some g9_macadamlaw03_StoneMore, some g10_macadamlaw03_StoneHonest, some g11_macadamlaw03_StoneLiar, some g12_macadamlaw03_StoneOwed, some g13_macadamlaw03_StoneWrong, some g14_macadamlaw03_StoneKnown, some g15_stone_Right, some g16_macadamref03_Right, some g17_stone_Check, some g18_macadamref03_Check, some g19_stone_Yards, some g20_macadamref03_Yards, some g21_stone_Heap, some g22_macadamref03_Heap, some g23_macadamlaw03_heaped, some g24_stone_Laid, some g25_macadamref03_Laid, some g26_stone_Owed, some g27_macadamref03_Owed, some g28_stone_Liars, some g29_macadamref03_Liars, some g30_macadamref00_Like, some g31_stone_Fits, some g32_macadamref03_Fits, some g33_stone_Wrong, some g34_macadamref03_Wrong, some g35_macadamlaw03_sound, some g36_macadamlaw03_truly, some g37_macadamlaw03_rightly, some g38_macadamref00_Wrap, some g39_macadamref00_Holds, some g40_macadamref00_Rising, some g41_macadamref00_Just, some g42_macadamref00_Sane, some g43_macadamref00_Inner, some g44_macadamref00_Reach, some g45_macadamref00_Sum, some g46_macadamref00_Set, some g47_macadamref00_Place, some g48_macadamref00_All, some g49_macadamlaw03_freed, some g50_macadamref00_Fewer, some g51_macadamlaw03_mends, some g52_macadamlaw03_own, some g53_macadamlaw03_torn, some g54_macadamlaw03_full, some g55_stone_opened, some g56_stone_some, some g57_stone_book_isTrue, some g58_macadamref03_carted, some g59_stone_within, some g60_stone_isSpan, some g61_stone_isEnd, some g62_stone_isCarter, some g63_macadamref00_Amid, some g64_macadamref03_end, some g65_macadamref03_isCarter, some g66_stone_asked, some g67_stone_isMove, some g68_stone_book_told, some g69_stone_Yards_1, some g70_macadamref03_asked, some g71_macadamref03_isMove, some g72_macadamref03_ends, some g73_stone_isHeap, some g74_stone_Heap_1, some g75_stone_book_more, some g76_macadamref03_isHeap, some g77_macadamref03_firsts, some g78_macadamref03_heap, some g79_stone_book_all, some g80_stone_Laid_1, some g81_stone_Owed_1, some g82_stone_book_truths, some g83_stone_book_lied, some g84_stone_Wrong_1, some g85_macadamref00_From, some g86_macadamref00_Pick, some g87_macadamref00_In, some g88_macadamref00_Sooner, some g89_macadamlaw03_book, some g90_stone_some_1, some g91_slices_Contains, some g92_macadamref00_Put, some g93_macadamref00_Union, some g94_stone_nothing, some g95_stone_sum, some g96_stone_book_all_1, some g97_stone_book_truths_1, some g98_stone_book_right, some g99_stone_book_truths_1_1, some g100_stone_book_first, some g101_macadamlaw03_move, some g102_slices_Index, none, none, none, none, none, none, none, none, none, none, none, none, none, none, none, some g118_stone_move_coming, none, some g120_stone_move_going]
def tbl2 : List (Nat × AFn) := [(1052, g1052_macadamlaw03_own), (1089, g1089_macadamlaw03_book), (2052, g2052_macadamlaw03_own), (2089, g2089_macadamlaw03_book)]
def pr : AProg := ⟨fun k => match tbl[k]? with | some x => x | none => tbl2.lookup k, fun
  | 0 => [.int .i64 (-1), .int .i64 (-1)]
  | 1 => [.fn 118 [] [], .fn 120 [] []]
  | _ => []⟩
theorem fn3 : pr.fn 3 = some g3_macadamlaw03_StoneYards := by rfl
theorem fn4 : pr.fn 4 = some g4_macadamlaw03_StoneOwes := by rfl
theorem fn5 : pr.fn 5 = some g5_macadamlaw03_StoneFits := by rfl
theorem fn6 : pr.fn 6 = some g6_macadamlaw03_StoneTrue := by rfl
theorem fn7 : pr.fn 7 = some g7_macadamlaw03_StoneEach := by rfl
theorem fn8 : pr.fn 8 = some g8_macadamlaw03_StoneHeap := by rfl
theorem fn9 : pr.fn 9 = some g9_macadamlaw03_StoneMore := by rfl
theorem fn10 : pr.fn 10 = some g10_macadamlaw03_StoneHonest := by rfl
theorem fn11 : pr.fn 11 = some g11_macadamlaw03_StoneLiar := by rfl
theorem fn12 : pr.fn 12 = some g12_macadamlaw03_StoneOwed := by rfl
theorem fn13 : pr.fn 13 = some g13_macadamlaw03_StoneWrong := by rfl
theorem fn14 : pr.fn 14 = some g14_macadamlaw03_StoneKnown := by rfl
theorem fn1052 : pr.fn 1052 = some g1052_macadamlaw03_own := by rfl
theorem fn1089 : pr.fn 1089 = some g1089_macadamlaw03_book := by rfl
theorem fn2052 : pr.fn 2052 = some g2052_macadamlaw03_own := by rfl
theorem fn2089 : pr.fn 2089 = some g2089_macadamlaw03_book := by rfl
theorem fn15 : pr.fn 15 = some g15_stone_Right := by rfl
theorem fn16 : pr.fn 16 = some g16_macadamref03_Right := by rfl
theorem fn17 : pr.fn 17 = some g17_stone_Check := by rfl
theorem fn18 : pr.fn 18 = some g18_macadamref03_Check := by rfl
theorem fn19 : pr.fn 19 = some g19_stone_Yards := by rfl
theorem fn20 : pr.fn 20 = some g20_macadamref03_Yards := by rfl
theorem fn21 : pr.fn 21 = some g21_stone_Heap := by rfl
theorem fn22 : pr.fn 22 = some g22_macadamref03_Heap := by rfl
theorem fn23 : pr.fn 23 = some g23_macadamlaw03_heaped := by rfl
theorem fn24 : pr.fn 24 = some g24_stone_Laid := by rfl
theorem fn25 : pr.fn 25 = some g25_macadamref03_Laid := by rfl
theorem fn26 : pr.fn 26 = some g26_stone_Owed := by rfl
theorem fn27 : pr.fn 27 = some g27_macadamref03_Owed := by rfl
theorem fn28 : pr.fn 28 = some g28_stone_Liars := by rfl
theorem fn29 : pr.fn 29 = some g29_macadamref03_Liars := by rfl
theorem fn30 : pr.fn 30 = some g30_macadamref00_Like := by rfl
theorem fn31 : pr.fn 31 = some g31_stone_Fits := by rfl
theorem fn32 : pr.fn 32 = some g32_macadamref03_Fits := by rfl
theorem fn33 : pr.fn 33 = some g33_stone_Wrong := by rfl
theorem fn34 : pr.fn 34 = some g34_macadamref03_Wrong := by rfl
theorem fn35 : pr.fn 35 = some g35_macadamlaw03_sound := by rfl
theorem fn36 : pr.fn 36 = some g36_macadamlaw03_truly := by rfl
theorem fn37 : pr.fn 37 = some g37_macadamlaw03_rightly := by rfl
theorem fn38 : pr.fn 38 = some g38_macadamref00_Wrap := by rfl
theorem fn39 : pr.fn 39 = some g39_macadamref00_Holds := by rfl
theorem fn40 : pr.fn 40 = some g40_macadamref00_Rising := by rfl
theorem fn41 : pr.fn 41 = some g41_macadamref00_Just := by rfl
theorem fn42 : pr.fn 42 = some g42_macadamref00_Sane := by rfl
theorem fn43 : pr.fn 43 = some g43_macadamref00_Inner := by rfl
theorem fn44 : pr.fn 44 = some g44_macadamref00_Reach := by rfl
theorem fn45 : pr.fn 45 = some g45_macadamref00_Sum := by rfl
theorem fn46 : pr.fn 46 = some g46_macadamref00_Set := by rfl
theorem fn47 : pr.fn 47 = some g47_macadamref00_Place := by rfl
theorem fn48 : pr.fn 48 = some g48_macadamref00_All := by rfl
theorem fn49 : pr.fn 49 = some g49_macadamlaw03_freed := by rfl
theorem fn50 : pr.fn 50 = some g50_macadamref00_Fewer := by rfl
theorem fn51 : pr.fn 51 = some g51_macadamlaw03_mends := by rfl
theorem fn52 : pr.fn 52 = some g52_macadamlaw03_own := by rfl
theorem fn53 : pr.fn 53 = some g53_macadamlaw03_torn := by rfl
theorem fn54 : pr.fn 54 = some g54_macadamlaw03_full := by rfl
theorem fn55 : pr.fn 55 = some g55_stone_opened := by rfl
theorem fn56 : pr.fn 56 = some g56_stone_some := by rfl
theorem fn57 : pr.fn 57 = some g57_stone_book_isTrue := by rfl
theorem fn58 : pr.fn 58 = some g58_macadamref03_carted := by rfl
theorem fn59 : pr.fn 59 = some g59_stone_within := by rfl
theorem fn60 : pr.fn 60 = some g60_stone_isSpan := by rfl
theorem fn61 : pr.fn 61 = some g61_stone_isEnd := by rfl
theorem fn62 : pr.fn 62 = some g62_stone_isCarter := by rfl
theorem fn63 : pr.fn 63 = some g63_macadamref00_Amid := by rfl
theorem fn64 : pr.fn 64 = some g64_macadamref03_end := by rfl
theorem fn65 : pr.fn 65 = some g65_macadamref03_isCarter := by rfl
theorem fn66 : pr.fn 66 = some g66_stone_asked := by rfl
theorem fn67 : pr.fn 67 = some g67_stone_isMove := by rfl
theorem fn68 : pr.fn 68 = some g68_stone_book_told := by rfl
theorem fn69 : pr.fn 69 = some g69_stone_Yards_1 := by rfl
theorem fn70 : pr.fn 70 = some g70_macadamref03_asked := by rfl
theorem fn71 : pr.fn 71 = some g71_macadamref03_isMove := by rfl
theorem fn72 : pr.fn 72 = some g72_macadamref03_ends := by rfl
theorem fn73 : pr.fn 73 = some g73_stone_isHeap := by rfl
theorem fn74 : pr.fn 74 = some g74_stone_Heap_1 := by rfl
theorem fn75 : pr.fn 75 = some g75_stone_book_more := by rfl
theorem fn76 : pr.fn 76 = some g76_macadamref03_isHeap := by rfl
theorem fn77 : pr.fn 77 = some g77_macadamref03_firsts := by rfl
theorem fn78 : pr.fn 78 = some g78_macadamref03_heap := by rfl
theorem fn79 : pr.fn 79 = some g79_stone_book_all := by rfl
theorem fn80 : pr.fn 80 = some g80_stone_Laid_1 := by rfl
theorem fn81 : pr.fn 81 = some g81_stone_Owed_1 := by rfl
theorem fn82 : pr.fn 82 = some g82_stone_book_truths := by rfl
theorem fn83 : pr.fn 83 = some g83_stone_book_lied := by rfl
theorem fn84 : pr.fn 84 = some g84_stone_Wrong_1 := by rfl
theorem fn85 : pr.fn 85 = some g85_macadamref00_From := by rfl
theorem fn86 : pr.fn 86 = some g86_macadamref00_Pick := by rfl
theorem fn87 : pr.fn 87 = some g87_macadamref00_In := by rfl
theorem fn88 : pr.fn 88 = some g88_macadamref00_Sooner := by rfl
theorem fn89 : pr.fn 89 = some g89_macadamlaw03_book := by rfl
theorem fn90 : pr.fn 90 = some g90_stone_some_1 := by rfl
theorem fn91 : pr.fn 91 = some g91_slices_Contains := by rfl
theorem fn92 : pr.fn 92 = some g92_macadamref00_Put := by rfl
theorem fn93 : pr.fn 93 = some g93_macadamref00_Union := by rfl
theorem fn94 : pr.fn 94 = some g94_stone_nothing := by rfl
theorem fn95 : pr.fn 95 = some g95_stone_sum := by rfl
theorem fn96 : pr.fn 96 = some g96_stone_book_all_1 := by rfl
theorem fn97 : pr.fn 97 = some g97_stone_book_truths_1 := by rfl
theorem fn98 : pr.fn 98 = some g98_stone_book_right := by rfl
theorem fn99 : pr.fn 99 = some g99_stone_book_truths_1_1 := by rfl
theorem fn100 : pr.fn 100 = some g100_stone_book_first := by rfl
theorem fn101 : pr.fn 101 = some g101_macadamlaw03_move := by rfl
theorem fn102 : pr.fn 102 = some g102_slices_Index := by rfl
theorem fn118 : pr.fn 118 = some g118_stone_move_coming := by rfl
theorem fn120 : pr.fn 120 = some g120_stone_move_going := by rfl
end Av
end
