/- The lowered text, second part: data. -/
import Derived.Test.YtpjhmbfpfbpciaaDoorAvMF
set_option linter.all false
set_option linter.unusedSectionVars false
set_option linter.unusedVariables false
set_option linter.unusedSimpArgs false
set_option linter.unnecessarySimpa false
section
/- The lowered text of the program, printed by a program of this session out of the translation; IrC holds it against the translation. -/
namespace Av
open Go (IntKind BinOp UnOp)
/-- macadam/macadamref03.firsts -/
def g77_macadamref03_firsts_l0 : ACode := (.seq (.seq (.reg [⟨some 55, .p (.mov (.t 11)), none⟩,
    ⟨some 56, .p (.mov (.t 1)), none⟩,
    ⟨some 57, .p (.len (.t 56)), none⟩,
    ⟨some 58, .p (.bin .leq (.t 55) (.t 57)), none⟩])
  (.cond (.t 58) .skip (.exit 2)))
  (.seq (.block 3 (.reg [⟨some 61, .p (.mov (.t 10)), none⟩,
    ⟨some 62, .p (.mov (.t 61)), none⟩,
    ⟨some 63, .p (.loadL 3 6 true none), (some (62, true))⟩,
    ⟨some 64, .p (.loadL 8 2 true none), (some (62, true))⟩,
    ⟨some 65, .p (.mov (.t 2)), (some (62, true))⟩,
    ⟨some 66, .p (.mov (.t 11)), (some (62, true))⟩,
    ⟨some 67, .call (.f 78) [.t 63, .t 64, .t 65, .t 66], (some (62, true))⟩,
    ⟨some 68, .p (.bin .geq (.t 67) (.c (.int .i64 0))), (some (62, true))⟩,
    ⟨some 69, .p (.pick (.t 62) (.t 68) (.c (.bool false))), none⟩,
    ⟨some 10, .p (.mov (.t 69)), none⟩]))
  (.reg [⟨some 59, .p (.mov (.t 11)), none⟩,
    ⟨some 60, .p (.bin .add (.t 59) (.c (.int .i64 1))), none⟩,
    ⟨some 11, .p (.mov (.t 60)), none⟩])))
def g77_macadamref03_firsts_l1 : ACode := (.seq (.seq (.reg [⟨some 26, .p (.mov (.t 9)), none⟩,
    ⟨some 27, .p (.lad 3 0), none⟩,
    ⟨some 28, .p (.loadL 3 1 false (some (.t 27))), none⟩,
    ⟨some 29, .p (.mov (.t 2)), none⟩,
    ⟨some 30, .p (.iaddr none 4 (.t 28) (.t 29)), none⟩,
    ⟨some 31, .p (.faddr 0 (.t 30)), none⟩,
    ⟨some 32, .p (.faddr 1 (.t 31)), none⟩,
    ⟨some 33, .p (.loadC 1 false (.t 32)), none⟩,
    ⟨some 34, .p (.bin .leq (.t 26) (.t 33)), none⟩])
  (.cond (.t 34) .skip (.exit 0)))
  (.seq (.block 1 (.seq (.reg [⟨some 37, .p (.lad 8 0), none⟩,
    ⟨some 38, .p (.loadL 8 1 false (some (.t 37))), none⟩,
    ⟨some 39, .p (.mov (.t 2)), none⟩,
    ⟨some 40, .p (.mov (.t 9)), none⟩,
    ⟨some 41, .p (.iaddr none 1 (.t 38) (.t 39)), none⟩,
    ⟨none, .h (.store 1 (.t 41) (.t 40)), none⟩])
  (.seq (.reg [⟨some 42, .p (.lad 3 0), none⟩,
    ⟨some 43, .p (.loadL 3 1 false (some (.t 42))), none⟩,
    ⟨some 44, .p (.mov (.t 2)), none⟩,
    ⟨some 45, .p (.iaddr none 4 (.t 43) (.t 44)), none⟩,
    ⟨some 46, .p (.faddr 2 (.t 45)), none⟩,
    ⟨some 47, .p (.loadC 2 true (.t 46)), none⟩,
    ⟨some 48, .p (.loadL 3 6 true none), none⟩,
    ⟨some 49, .p (.loadL 8 2 true none), none⟩,
    ⟨some 50, .p (.mov (.t 2)), none⟩,
    ⟨some 51, .p (.mov (.t 1)), none⟩,
    ⟨some 52, .p (.len (.t 51)), none⟩,
    ⟨some 53, .call (.f 78) [.t 48, .t 49, .t 50, .t 52], none⟩,
    ⟨some 54, .calli (.f 39) [.t 47, .t 53], none⟩,
    ⟨some 10, .p (.mov (.t 54)), none⟩])
  (.seq (.seq (.reg [⟨some 11, .p (.mov (.c (.int .i64 0))), none⟩])
  (.block 2 (.loop g77_macadamref03_firsts_l0)))
  (.seq (.reg [⟨some 70, .p (.mov (.t 10)), none⟩])
  (.cond (.t 70) (.reg [⟨some 71, .p (.mov (.t 7)), none⟩,
    ⟨some 72, .p (.mov (.t 9)), none⟩,
    ⟨some 73, .p (.bslice 1 [.int .i64 0] 1 [(0, .t 72)]), none⟩,
    ⟨some 74, .h (.append 1 8 (.t 71) (.t 73)), none⟩,
    ⟨some 7, .p (.mov (.t 74)), none⟩]) .skip))))))
  (.reg [⟨some 35, .p (.mov (.t 9)), none⟩,
    ⟨some 36, .p (.bin .add (.t 35) (.c (.int .i64 1))), none⟩,
    ⟨some 9, .p (.mov (.t 36)), none⟩])))
def g77_macadamref03_firsts_c : ACode := (.seq (.reg [⟨some 3, .p (.boxL 3 (.t 0)), none⟩,
    ⟨some 6, .p (.mov (.c (.sl [] .exact))), none⟩])
  (.seq (.reg [⟨some 12, .p (.bslice 1 [.int .i64 0] 0 []), none⟩,
    ⟨some 7, .p (.mov (.t 12)), none⟩])
  (.seq (.reg [⟨some 13, .p (.lad 3 0), none⟩,
    ⟨some 14, .p (.loadL 3 1 false (some (.t 13))), none⟩,
    ⟨some 15, .p (.len (.t 14)), none⟩,
    ⟨some 16, .h (.mslice 1 [.int .i64 0] (.t 15) (.t 15)), none⟩,
    ⟨some 17, .p (.mov (.t 1)), none⟩,
    ⟨some 18, .p (.build [.sl [] .exact, .sl [] .exact] [(0, 1, .t 16), (1, 1, .t 17)]), none⟩,
    ⟨some 8, .p (.allocL 8 [.sl [] .exact, .sl [] .exact]), none⟩,
    ⟨none, .p (.storeL 8 2 none (.t 18)), none⟩])
  (.seq (.seq (.reg [⟨some 19, .p (.lad 3 0), none⟩,
    ⟨some 20, .p (.loadL 3 1 false (some (.t 19))), none⟩,
    ⟨some 21, .p (.mov (.t 2)), none⟩,
    ⟨some 22, .p (.iaddr none 4 (.t 20) (.t 21)), none⟩,
    ⟨some 23, .p (.faddr 0 (.t 22)), none⟩,
    ⟨some 24, .p (.faddr 0 (.t 23)), none⟩,
    ⟨some 25, .p (.loadC 1 false (.t 24)), none⟩,
    ⟨some 9, .p (.mov (.t 25)), none⟩])
  (.block 0 (.loop g77_macadamref03_firsts_l1)))
  (.seq (.reg [⟨some 75, .p (.mov (.t 7)), none⟩,
    ⟨some 6, .p (.mov (.t 75)), none⟩])
  .ret)))))
def g77_macadamref03_firsts : AFn := ⟨g77_macadamref03_firsts_c, [.t 6], 3⟩

/-- macadam/macadamref03.heap -/
def g78_macadamref03_heap_l0 : ACode := (.seq (.seq (.reg [⟨some 16, .p (.mov (.t 10)), none⟩,
    ⟨some 17, .p (.mov (.t 3)), none⟩,
    ⟨some 18, .p (.bin .lss (.t 16) (.t 17)), none⟩])
  (.cond (.t 18) .skip (.exit 0)))
  (.seq (.block 1 (.seq (.seq (.reg [⟨some 21, .p (.lad 4 1), none⟩,
    ⟨some 22, .p (.loadL 4 1 false (some (.t 21))), none⟩,
    ⟨some 23, .p (.mov (.t 10)), none⟩,
    ⟨some 24, .p (.iaddr none 4 (.t 22) (.t 23)), none⟩,
    ⟨some 25, .p (.faddr 0 (.t 24)), none⟩,
    ⟨some 26, .p (.loadC 1 false (.t 25)), none⟩,
    ⟨some 27, .p (.mov (.t 2)), none⟩,
    ⟨some 28, .p (.bin .eql (.t 26) (.t 27)), none⟩])
  (.cond (.t 28) (.reg [⟨some 29, .p (.mov (.t 9)), none⟩,
    ⟨some 30, .p (.lad 5 1), none⟩,
    ⟨some 31, .p (.loadL 5 1 false (some (.t 30))), none⟩,
    ⟨some 32, .p (.mov (.t 10)), none⟩,
    ⟨some 33, .p (.iaddr none 1 (.t 31) (.t 32)), none⟩,
    ⟨some 34, .p (.loadC 1 false (.t 33)), none⟩,
    ⟨some 35, .p (.bin .sub (.t 29) (.t 34)), none⟩,
    ⟨some 9, .p (.mov (.t 35)), none⟩]) .skip))
  (.seq (.reg [⟨some 36, .p (.lad 4 1), none⟩,
    ⟨some 37, .p (.loadL 4 1 false (some (.t 36))), none⟩,
    ⟨some 38, .p (.mov (.t 10)), none⟩,
    ⟨some 39, .p (.iaddr none 4 (.t 37) (.t 38)), none⟩,
    ⟨some 40, .p (.faddr 1 (.t 39)), none⟩,
    ⟨some 41, .p (.loadC 1 false (.t 40)), none⟩,
    ⟨some 42, .p (.mov (.t 2)), none⟩,
    ⟨some 43, .p (.bin .eql (.t 41) (.t 42)), none⟩])
  (.cond (.t 43) (.reg [⟨some 44, .p (.mov (.t 9)), none⟩,
    ⟨some 45, .p (.lad 5 1), none⟩,
    ⟨some 46, .p (.loadL 5 1 false (some (.t 45))), none⟩,
    ⟨some 47, .p (.mov (.t 10)), none⟩,
    ⟨some 48, .p (.iaddr none 1 (.t 46) (.t 47)), none⟩,
    ⟨some 49, .p (.loadC 1 false (.t 48)), none⟩,
    ⟨some 50, .p (.bin .add (.t 44) (.t 49)), none⟩,
    ⟨some 9, .p (.mov (.t 50)), none⟩]) .skip))))
  (.reg [⟨some 19, .p (.mov (.t 10)), none⟩,
    ⟨some 20, .p (.bin .add (.t 19) (.c (.int .i64 1))), none⟩,
    ⟨some 10, .p (.mov (.t 20)), none⟩])))
def g78_macadamref03_heap_c : ACode := (.seq (.reg [⟨some 4, .p (.boxL 4 (.t 0)), none⟩,
    ⟨some 5, .p (.boxL 5 (.t 1)), none⟩,
    ⟨some 8, .p (.mov (.c (.int .i64 0))), none⟩])
  (.seq (.reg [⟨some 11, .p (.lad 5 0), none⟩,
    ⟨some 12, .p (.loadL 5 1 false (some (.t 11))), none⟩,
    ⟨some 13, .p (.mov (.t 2)), none⟩,
    ⟨some 14, .p (.iaddr none 1 (.t 12) (.t 13)), none⟩,
    ⟨some 15, .h (.load 1 false (.t 14)), none⟩,
    ⟨some 9, .p (.mov (.t 15)), none⟩])
  (.seq (.seq (.reg [⟨some 10, .p (.mov (.c (.int .i64 0))), none⟩])
  (.block 0 (.loop g78_macadamref03_heap_l0)))
  (.seq (.reg [⟨some 51, .p (.mov (.t 9)), none⟩,
    ⟨some 8, .p (.mov (.t 51)), none⟩])
  .ret))))
def g78_macadamref03_heap : AFn := ⟨g78_macadamref03_heap_c, [.t 8], 4⟩

/-- (macadam/stone.book).all -/
def g79_stone_book_all_c : ACode := (.seq (.reg [⟨some 2, .p (.boxL 2 (.t 0)), none⟩,
    ⟨some 3, .p (.boxL 3 (.t 1)), none⟩,
    ⟨some 4, .p (.allocL 4 [.int .i64 0, .int .i64 0]), none⟩])
  (.seq (.frz [2, 3] (.reg [⟨some 5, .p (.loadL 2 8 true none), none⟩,
    ⟨some 6, .p (.mkfn 96 [] [.t 2, .t 3]), none⟩,
    ⟨some 7, .calli (.f 68) [.t 5, .t 6], none⟩,
    ⟨none, .p (.storeL 4 2 none (.t 7)), none⟩]))
  .ret))
def g79_stone_book_all : AFn := ⟨g79_stone_book_all_c, [.cellL 4 2 true], 2⟩

/-- macadam/stone.Laid$1 -/
def g80_stone_Laid_1_c : ACode := (.seq (.reg [⟨some 1, .p (.boxL 1 (.t 0)), none⟩,
    ⟨some 2, .p (.mov (.c (.bool false))), none⟩])
  (.seq (.reg [⟨some 3, .p (.lad 1 1), none⟩,
    ⟨some 4, .p (.loadL 1 1 false (some (.t 3))), none⟩,
    ⟨some 5, .p (.bin .eql (.t 4) (.c (.int .i64 (-1)))), none⟩,
    ⟨some 2, .p (.mov (.t 5)), none⟩])
  .ret))
def g80_stone_Laid_1 : AFn := ⟨g80_stone_Laid_1_c, [.t 2], 1⟩

/-- macadam/stone.Owed$1 -/
def g81_stone_Owed_1_c : ACode := (.seq (.reg [⟨some 2, .p (.boxL 2 (.t 0)), none⟩,
    ⟨some 3, .p (.mov (.c (.bool false))), none⟩])
  (.seq (.reg [⟨some 4, .p (.lad 2 2), none⟩,
    ⟨some 5, .p (.loadL 2 1 false (some (.t 4))), none⟩,
    ⟨some 6, .p (.loadC 1 false (.t 1)), none⟩,
    ⟨some 7, .p (.bin .eql (.t 5) (.t 6)), none⟩,
    ⟨some 3, .p (.mov (.t 7)), none⟩])
  .ret))
def g81_stone_Owed_1 : AFn := ⟨g81_stone_Owed_1_c, [.t 3], 2⟩

/-- (macadam/stone.book).truths -/
def g82_stone_book_truths_c : ACode := (.seq (.reg [⟨some 1, .p (.boxL 1 (.t 0)), none⟩,
    ⟨some 2, .p (.mov (.c .nilf)), none⟩])
  (.seq (.frz [1] (.reg [⟨some 3, .p (.mkfn 97 [] [.t 1]), none⟩,
    ⟨some 2, .p (.mov (.t 3)), none⟩]))
  .ret))
def g82_stone_book_truths : AFn := ⟨g82_stone_book_truths_c, [.t 2], 1⟩

/-- (macadam/stone.book).lied -/
def g83_stone_book_lied_l0 : ACode := (.seq (.reg [⟨some 13, .p (.bin .lss (.t 12) (.t 11)), none⟩])
  (.seq (.cond (.t 13) .skip (.exit 0))
  (.seq (.block 1 (.seq (.reg [⟨some 14, .p (.mov (.t 12)), none⟩,
    ⟨some 15, .p (.iaddr none 4 (.t 10) (.t 12)), none⟩,
    ⟨some 16, .p (.loadC 4 true (.t 15)), none⟩,
    ⟨some 7, .p (.allocL 7 [.int .i64 0, .int .i64 0, .int .i64 0, .int .i64 0]), none⟩,
    ⟨some 6, .p (.mov (.t 14)), none⟩,
    ⟨none, .p (.storeL 7 4 none (.t 16)), none⟩])
  (.seq (.reg [⟨some 17, .p (.lad 7 3), none⟩,
    ⟨some 18, .p (.loadL 7 1 false (some (.t 17))), none⟩,
    ⟨some 19, .p (.mov (.t 6)), none⟩,
    ⟨some 20, .p (.ladi 3 5 1 (.t 19)), none⟩,
    ⟨some 21, .p (.loadL 3 1 false (some (.t 20))), none⟩,
    ⟨some 22, .p (.bin .gtr (.t 18) (.t 21)), none⟩])
  (.cond (.t 22) (.reg [⟨some 23, .p (.mov (.t 5)), none⟩,
    ⟨some 24, .p (.lad 7 2), none⟩,
    ⟨some 25, .p (.loadL 7 1 false (some (.t 24))), none⟩,
    ⟨some 26, .p (.bin .shl (.c (.int .i64 1)) (.t 25)), none⟩,
    ⟨some 27, .p (.bin .or (.t 23) (.t 26)), none⟩,
    ⟨some 5, .p (.mov (.t 27)), none⟩]) .skip))))
  (.reg [⟨some 28, .p (.bin .add (.t 12) (.c (.int .i64 1))), none⟩,
    ⟨some 12, .p (.mov (.t 28)), none⟩]))))
def g83_stone_book_lied_c : ACode := (.seq (.reg [⟨some 2, .p (.boxL 2 (.t 0)), none⟩,
    ⟨some 3, .p (.boxL 3 (.t 1)), none⟩,
    ⟨some 4, .p (.mov (.c (.int .i64 0))), none⟩])
  (.seq (.reg [⟨some 5, .p (.mov (.c (.int .i64 0))), none⟩])
  (.seq (.seq (.reg [⟨some 8, .p (.lad 2 0), none⟩,
    ⟨some 9, .p (.faddr 1 (.t 8)), none⟩,
    ⟨some 10, .p (.loadL 2 1 false (some (.t 9))), none⟩,
    ⟨some 11, .p (.len (.t 10)), none⟩,
    ⟨some 12, .p (.mov (.c (.int .i64 0))), none⟩])
  (.block 0 (.loop g83_stone_book_lied_l0)))
  (.seq (.reg [⟨some 29, .p (.mov (.t 5)), none⟩,
    ⟨some 4, .p (.mov (.t 29)), none⟩])
  .ret))))
def g83_stone_book_lied : AFn := ⟨g83_stone_book_lied_c, [.t 4], 2⟩

/-- macadam/stone.Wrong$1 -/
def g84_stone_Wrong_1_l0 : ACode := (.seq (.seq (.reg [⟨some 33, .p (.mov (.t 10)), none⟩,
    ⟨some 34, .p (.faddr 1 (.t 2)), none⟩,
    ⟨some 35, .p (.loadC 1 false (.t 34)), none⟩,
    ⟨some 36, .p (.len (.t 35)), none⟩,
    ⟨some 37, .p (.bin .lss (.t 33) (.t 36)), none⟩])
  (.cond (.t 37) .skip (.exit 0)))
  (.seq (.block 1 (.seq (.reg [⟨some 41, .h (.load 1 false (.t 3)), none⟩,
    ⟨some 42, .p (.mov (.t 0)), none⟩,
    ⟨some 43, .p (.mov (.t 8)), none⟩,
    ⟨some 44, .p (.mov (.t 8)), none⟩,
    ⟨some 45, .p (.slice 1 (.t 42) none (some (.t 43)) (some (.t 44))), none⟩,
    ⟨some 46, .p (.mov (.t 10)), none⟩,
    ⟨some 47, .p (.bslice 1 [.int .i64 0] 1 [(0, .t 46)]), none⟩,
    ⟨some 48, .h (.append 1 8 (.t 45) (.t 47)), none⟩,
    ⟨some 49, .p (.mov (.t 1)), none⟩,
    ⟨some 50, .call (.t 41) [.t 48, .t 49], none⟩,
    ⟨some 40, .p (.mov (.t 50)), none⟩,
    ⟨some 51, .p (.extract (.t 40) 0), none⟩,
    ⟨some 52, .p (.extract (.t 40) 1), none⟩,
    ⟨some 11, .p (.mov (.t 51)), none⟩,
    ⟨some 12, .p (.mov (.t 52)), none⟩])
  (.seq (.reg [⟨some 53, .p (.mov (.t 12)), none⟩])
  (.cond (.t 53) (.seq (.reg [⟨some 54, .p (.mov (.t 11)), none⟩,
    ⟨some 6, .p (.mov (.t 54)), none⟩,
    ⟨some 7, .p (.mov (.c (.bool true))), none⟩])
  .ret) .skip))))
  (.reg [⟨some 38, .p (.mov (.t 10)), none⟩,
    ⟨some 39, .p (.bin .add (.t 38) (.c (.int .i64 1))), none⟩,
    ⟨some 10, .p (.mov (.t 39)), none⟩])))
def g84_stone_Wrong_1_c : ACode := (.seq (.reg [⟨some 6, .p (.mov (.c (.sl [] .exact))), none⟩,
    ⟨some 7, .p (.mov (.c (.bool false))), none⟩])
  (.seq (.reg [⟨some 13, .p (.mov (.t 0)), none⟩,
    ⟨some 14, .p (.len (.t 13)), none⟩,
    ⟨some 8, .p (.mov (.t 14)), none⟩])
  (.seq (.seq (.reg [⟨some 15, .p (.mov (.t 8)), none⟩,
    ⟨some 16, .p (.mov (.t 1)), none⟩,
    ⟨some 17, .p (.bin .eql (.t 15) (.t 16)), none⟩])
  (.cond (.t 17) (.seq (.reg [⟨some 18, .p (.mov (.t 0)), none⟩,
    ⟨some 19, .p (.loadC 6 true (.t 2)), none⟩,
    ⟨some 20, .p (.mov (.t 0)), none⟩,
    ⟨some 21, .calli (.f 56) [.t 20], none⟩,
    ⟨some 22, .calli (.f 55) [.t 19, .t 21], none⟩,
    ⟨some 23, .calli (.f 57) [.t 22], none⟩,
    ⟨some 6, .p (.mov (.t 18)), none⟩,
    ⟨some 7, .p (.mov (.t 23)), none⟩])
  .ret) .skip))
  (.seq (.reg [⟨some 9, .p (.mov (.c (.int .i64 0))), none⟩])
  (.seq (.seq (.reg [⟨some 24, .p (.mov (.t 8)), none⟩,
    ⟨some 25, .p (.bin .gtr (.t 24) (.c (.int .i64 0))), none⟩])
  (.cond (.t 25) (.reg [⟨some 26, .p (.mov (.t 0)), none⟩,
    ⟨some 27, .p (.mov (.t 8)), none⟩,
    ⟨some 28, .p (.bin .sub (.t 27) (.c (.int .i64 1))), none⟩,
    ⟨some 29, .p (.iaddr none 1 (.t 26) (.t 28)), none⟩,
    ⟨some 30, .p (.loadC 1 false (.t 29)), none⟩,
    ⟨some 31, .p (.bin .add (.t 30) (.c (.int .i64 1))), none⟩,
    ⟨some 9, .p (.mov (.t 31)), none⟩]) .skip))
  (.seq (.seq (.reg [⟨some 32, .p (.mov (.t 9)), none⟩,
    ⟨some 10, .p (.mov (.t 32)), none⟩])
  (.block 0 (.loop g84_stone_Wrong_1_l0)))
  (.seq (.reg [⟨some 6, .p (.mov (.c (.sl [] .exact))), none⟩,
    ⟨some 7, .p (.mov (.c (.bool false))), none⟩])
  .ret)))))))
def g84_stone_Wrong_1 : AFn := ⟨g84_stone_Wrong_1_c, [.t 6, .t 7], 4⟩

/-- macadam/macadamref00.From -/
def g85_macadamref00_From_c : ACode := (.seq (.reg [⟨some 2, .p (.boxL 2 (.t 0)), none⟩,
    ⟨some 4, .p (.mov (.c (.int .i64 0))), none⟩])
  (.seq (.reg [⟨some 5, .p (.lad 2 0), none⟩,
    ⟨some 6, .p (.loadL 2 1 false (some (.t 5))), none⟩,
    ⟨some 7, .p (.mov (.t 1)), none⟩,
    ⟨some 8, .p (.lad 2 1), none⟩,
    ⟨some 9, .p (.loadL 2 1 false (some (.t 8))), none⟩,
    ⟨some 10, .p (.lad 2 0), none⟩,
    ⟨some 11, .p (.loadL 2 1 false (some (.t 10))), none⟩,
    ⟨some 12, .p (.bin .sub (.t 9) (.t 11)), none⟩,
    ⟨some 13, .p (.bin .add (.t 12) (.c (.int .i64 1))), none⟩,
    ⟨some 14, .calli (.f 38) [.t 7, .t 13], none⟩,
    ⟨some 15, .p (.bin .add (.t 6) (.t 14)), none⟩,
    ⟨some 4, .p (.mov (.t 15)), none⟩])
  .ret))
def g85_macadamref00_From : AFn := ⟨g85_macadamref00_From_c, [.t 4], 2⟩

/-- macadam/macadamref00.Pick -/
def g86_macadamref00_Pick_c : ACode := (.seq (.reg [⟨some 4, .p (.mov (.c (.int .i64 0))), none⟩])
  (.seq (.seq (.reg [⟨some 5, .p (.mov (.t 0)), none⟩,
    ⟨some 6, .p (.len (.t 5)), none⟩,
    ⟨some 7, .p (.bin .eql (.t 6) (.c (.int .i64 0))), none⟩])
  (.cond (.t 7) (.seq (.reg [⟨some 4, .p (.mov (.c (.int .i64 0))), none⟩])
  .ret) .skip))
  (.seq (.reg [⟨some 8, .p (.mov (.t 0)), none⟩,
    ⟨some 9, .p (.mov (.t 1)), none⟩,
    ⟨some 10, .p (.mov (.t 0)), none⟩,
    ⟨some 11, .p (.len (.t 10)), none⟩,
    ⟨some 12, .calli (.f 38) [.t 9, .t 11], none⟩,
    ⟨some 13, .p (.iaddr none 1 (.t 8) (.t 12)), none⟩,
    ⟨some 14, .p (.loadC 1 false (.t 13)), none⟩,
    ⟨some 4, .p (.mov (.t 14)), none⟩])
  .ret)))
def g86_macadamref00_Pick : AFn := ⟨g86_macadamref00_Pick_c, [.t 4], 2⟩

/-- macadam/macadamref00.In -/
def g87_macadamref00_In_c : ACode := (.seq (.reg [⟨some 4, .p (.mov (.c (.bool false))), none⟩])
  (.seq (.reg [⟨some 5, .p (.mov (.t 0)), none⟩,
    ⟨some 6, .p (.mov (.t 1)), none⟩,
    ⟨some 7, .p (.bin .shr (.t 5) (.t 6)), none⟩,
    ⟨some 8, .p (.bin .and (.t 7) (.c (.int .i64 1))), none⟩,
    ⟨some 9, .p (.bin .eql (.t 8) (.c (.int .i64 1))), none⟩,
    ⟨some 4, .p (.mov (.t 9)), none⟩])
  .ret))
def g87_macadamref00_In : AFn := ⟨g87_macadamref00_In_c, [.t 4], 2⟩

/-- macadam/macadamref00.Sooner -/
def g88_macadamref00_Sooner_l0 : ACode := (.seq (.seq (.reg [⟨some 6, .p (.mov (.t 5)), none⟩,
    ⟨some 7, .p (.mov (.t 0)), none⟩,
    ⟨some 8, .p (.len (.t 7)), none⟩,
    ⟨some 9, .p (.bin .lss (.t 6) (.t 8)), none⟩,
    ⟨some 10, .p (.mov (.t 9)), none⟩,
    ⟨some 11, .p (.mov (.t 5)), (some (10, true))⟩,
    ⟨some 12, .p (.mov (.t 1)), (some (10, true))⟩,
    ⟨some 13, .p (.len (.t 12)), (some (10, true))⟩,
    ⟨some 14, .p (.bin .lss (.t 11) (.t 13)), (some (10, true))⟩,
    ⟨some 15, .p (.pick (.t 10) (.t 14) (.c (.bool false))), none⟩])
  (.cond (.t 15) .skip (.exit 0)))
  (.seq (.block 1 (.seq (.reg [⟨some 18, .p (.mov (.t 0)), none⟩,
    ⟨some 19, .p (.mov (.t 5)), none⟩,
    ⟨some 20, .p (.iaddr none 1 (.t 18) (.t 19)), none⟩,
    ⟨some 21, .p (.loadC 1 false (.t 20)), none⟩,
    ⟨some 22, .p (.mov (.t 1)), none⟩,
    ⟨some 23, .p (.mov (.t 5)), none⟩,
    ⟨some 24, .p (.iaddr none 1 (.t 22) (.t 23)), none⟩,
    ⟨some 25, .p (.loadC 1 false (.t 24)), none⟩,
    ⟨some 26, .p (.bin .neq (.t 21) (.t 25)), none⟩])
  (.cond (.t 26) (.seq (.reg [⟨some 27, .p (.mov (.t 0)), none⟩,
    ⟨some 28, .p (.mov (.t 5)), none⟩,
    ⟨some 29, .p (.iaddr none 1 (.t 27) (.t 28)), none⟩,
    ⟨some 30, .p (.loadC 1 false (.t 29)), none⟩,
    ⟨some 31, .p (.mov (.t 1)), none⟩,
    ⟨some 32, .p (.mov (.t 5)), none⟩,
    ⟨some 33, .p (.iaddr none 1 (.t 31) (.t 32)), none⟩,
    ⟨some 34, .p (.loadC 1 false (.t 33)), none⟩,
    ⟨some 35, .p (.bin .lss (.t 30) (.t 34)), none⟩,
    ⟨some 4, .p (.mov (.t 35)), none⟩])
  .ret) .skip)))
  (.reg [⟨some 16, .p (.mov (.t 5)), none⟩,
    ⟨some 17, .p (.bin .add (.t 16) (.c (.int .i64 1))), none⟩,
    ⟨some 5, .p (.mov (.t 17)), none⟩])))
def g88_macadamref00_Sooner_c : ACode := (.seq (.reg [⟨some 4, .p (.mov (.c (.bool false))), none⟩])
  (.seq (.seq (.reg [⟨some 5, .p (.mov (.c (.int .i64 0))), none⟩])
  (.block 0 (.loop g88_macadamref00_Sooner_l0)))
  (.seq (.reg [⟨some 36, .p (.mov (.t 0)), none⟩,
    ⟨some 37, .p (.len (.t 36)), none⟩,
    ⟨some 38, .p (.mov (.t 1)), none⟩,
    ⟨some 39, .p (.len (.t 38)), none⟩,
    ⟨some 40, .p (.bin .lss (.t 37) (.t 39)), none⟩,
    ⟨some 4, .p (.mov (.t 40)), none⟩])
  .ret)))
def g88_macadamref00_Sooner : AFn := ⟨g88_macadamref00_Sooner_c, [.t 4], 2⟩

/-- macadam/macadamlaw03.book -/
def g89_macadamlaw03_book_c : ACode := (.seq (.reg [⟨some 1, .p (.boxL 1 (.t 0)), none⟩,
    ⟨some 2, .p (.allocL 2 [.sl [] .exact, .sl [] .exact, .int .i64 0, .int .i64 0, .int .i64 0, .int .i64 0]), none⟩])
  (.seq (.reg [⟨some 3, .calli (.f 44) [.c (.int .i64 10), .c (.int .i64 12)], none⟩,
    ⟨some 4, .calli (.f 44) [.c (.int .i64 2), .c (.int .i64 3)], none⟩,
    ⟨some 5, .p (.build [.int .i64 0, .int .i64 0, .int .i64 0, .int .i64 0] [(0, 2, .t 3), (2, 2, .t 4)]), none⟩,
    ⟨some 6, .calli (.f 41) [.c (.int .i64 5)], none⟩,
    ⟨some 7, .p (.loadL 1 2 true none), none⟩,
    ⟨some 8, .p (.build [.int .i64 0, .int .i64 0, .int .i64 0, .int .i64 0] [(0, 2, .t 6), (2, 2, .t 7)]), none⟩,
    ⟨some 9, .p (.bslice 4 [.int .i64 0, .int .i64 0, .int .i64 0, .int .i64 0] 2 [(0, .t 5), (1, .t 8)]), none⟩,
    ⟨some 10, .calli (.f 101) [.c (.int .i64 (-1)), .c (.int .i64 0), .c (.int .i64 0), .c (.int .i64 4)], none⟩,
    ⟨some 11, .calli (.f 101) [.c (.int .i64 0), .c (.int .i64 1), .c (.int .i64 1), .c (.int .i64 6)], none⟩,
    ⟨some 12, .calli (.f 101) [.c (.int .i64 0), .c (.int .i64 (-1)), .c (.int .i64 1), .c (.int .i64 5)], none⟩,
    ⟨some 13, .calli (.f 101) [.c (.int .i64 1), .c (.int .i64 (-1)), .c (.int .i64 0), .c (.int .i64 6)], none⟩,
    ⟨some 14, .p (.bslice 4 [.int .i64 0, .int .i64 0, .int .i64 0, .int .i64 0] 4 [(0, .t 10), (1, .t 11), (2, .t 12), (3, .t 13)]), none⟩,
    ⟨some 15, .p (.build [.int .i64 0, .int .i64 0, .int .i64 0, .int .i64 0] [(0, 1, .c (.int .i64 1)), (1, 1, .c (.int .i64 2)), (2, 1, .c (.int .i64 0)), (3, 1, .c (.int .i64 0))]), none⟩,
    ⟨some 16, .p (.build [.sl [] .exact, .sl [] .exact, .int .i64 0, .int .i64 0, .int .i64 0, .int .i64 0] [(0, 1, .t 9), (1, 1, .t 14), (2, 4, .t 15)]), none⟩,
    ⟨none, .p (.storeL 2 6 none (.t 16)), none⟩])
  .ret))
def g89_macadamlaw03_book : AFn := ⟨g89_macadamlaw03_book_c, [.cellL 2 6 true], 1⟩

/-- macadam/stone.some$1 -/
def g90_stone_some_1_c : ACode := (.seq (.reg [⟨some 3, .p (.mov (.c (.bool false))), none⟩])
  (.seq (.reg [⟨some 4, .p (.loadC 1 false (.t 1)), none⟩,
    ⟨some 5, .p (.mov (.t 0)), none⟩,
    ⟨some 6, .calli (.f 91) [.t 4, .t 5], none⟩,
    ⟨some 3, .p (.mov (.t 6)), none⟩])
  .ret))
def g90_stone_some_1 : AFn := ⟨g90_stone_some_1_c, [.t 3], 2⟩

/-- slices.Contains[[]int,int] -/
def g91_slices_Contains_c : ACode := (.seq (.reg [⟨some 4, .p (.mov (.c (.bool false))), none⟩])
  (.seq (.reg [⟨some 5, .p (.mov (.t 0)), none⟩,
    ⟨some 6, .p (.mov (.t 1)), none⟩,
    ⟨some 7, .calli (.f 102) [.t 5, .t 6], none⟩,
    ⟨some 8, .p (.bin .geq (.t 7) (.c (.int .i64 0))), none⟩,
    ⟨some 4, .p (.mov (.t 8)), none⟩])
  .ret))
def g91_slices_Contains : AFn := ⟨g91_slices_Contains_c, [.t 4], 2⟩

/-- macadam/macadamref00.Put -/
def g92_macadamref00_Put_c : ACode := (.seq (.reg [⟨some 4, .p (.mov (.c (.sl [] .exact))), none⟩])
  (.seq (.reg [⟨some 5, .p (.bslice 1 [.int .i64 0] 0 []), none⟩,
    ⟨some 6, .p (.mov (.t 0)), none⟩,
    ⟨some 7, .h (.append 1 8 (.t 5) (.t 6)), none⟩,
    ⟨some 8, .p (.mov (.t 1)), none⟩,
    ⟨some 9, .p (.bslice 1 [.int .i64 0] 1 [(0, .t 8)]), none⟩,
    ⟨some 10, .h (.append 1 8 (.t 7) (.t 9)), none⟩,
    ⟨some 4, .p (.mov (.t 10)), none⟩])
  .ret))
def g92_macadamref00_Put : AFn := ⟨g92_macadamref00_Put_c, [.t 4], 2⟩

/-- macadam/macadamref00.Union -/
def g93_macadamref00_Union_c : ACode := (.seq (.reg [⟨some 2, .p (.boxL 2 (.t 0)), none⟩,
    ⟨some 3, .p (.boxL 3 (.t 1)), none⟩,
    ⟨some 4, .p (.allocL 4 [.int .i64 0, .int .i64 0]), none⟩])
  (.seq (.reg [⟨some 5, .p (.lad 2 0), none⟩,
    ⟨some 6, .p (.loadL 2 1 false (some (.t 5))), none⟩,
    ⟨some 7, .p (.lad 3 0), none⟩,
    ⟨some 8, .p (.loadL 3 1 false (some (.t 7))), none⟩,
    ⟨some 9, .p (.mn [.t 6, .t 8]), none⟩,
    ⟨some 10, .p (.lad 2 1), none⟩,
    ⟨some 11, .p (.loadL 2 1 false (some (.t 10))), none⟩,
    ⟨some 12, .p (.lad 3 1), none⟩,
    ⟨some 13, .p (.loadL 3 1 false (some (.t 12))), none⟩,
    ⟨some 14, .p (.mx [.t 11, .t 13]), none⟩,
    ⟨some 15, .calli (.f 44) [.t 9, .t 14], none⟩,
    ⟨none, .p (.storeL 4 2 none (.t 15)), none⟩])
  .ret))
def g93_macadamref00_Union : AFn := ⟨g93_macadamref00_Union_c, [.cellL 4 2 true], 2⟩

/-- macadam/stone.nothing -/
def g94_stone_nothing_c : ACode := (.seq (.reg [⟨some 0, .p (.allocL 0 [.int .i64 0, .int .i64 0, .int .i64 0, .int .i64 0, .int .i64 0]), none⟩])
  (.seq (.reg [⟨some 1, .p (.allocL 1 [.int .i64 0, .int .i64 0, .int .i64 0, .int .i64 0, .int .i64 0]), none⟩])
  (.seq (.reg [⟨some 2, .p (.loadL 1 5 true none), none⟩,
    ⟨none, .p (.storeL 0 5 none (.t 2)), none⟩])
  .ret)))
def g94_stone_nothing : AFn := ⟨g94_stone_nothing_c, [.cellL 0 5 true], 0⟩

/-- macadam/stone.sum[int] -/
def g95_stone_sum_l0 : ACode := (.seq (.reg [⟨some 9, .p (.bin .lss (.t 8) (.t 7)), none⟩])
  (.seq (.cond (.t 9) .skip (.exit 0))
  (.seq (.block 1 (.seq (.reg [⟨some 10, .p (.iaddr none 1 (.t 6) (.t 8)), none⟩,
    ⟨some 11, .p (.loadC 1 false (.t 10)), none⟩,
    ⟨some 5, .p (.mov (.t 11)), none⟩])
  (.reg [⟨some 12, .p (.mov (.t 3)), none⟩,
    ⟨some 13, .p (.mov (.t 5)), none⟩,
    ⟨some 14, .p (.bin .add (.t 12) (.t 13)), none⟩,
    ⟨some 3, .p (.mov (.t 14)), none⟩])))
  (.reg [⟨some 15, .p (.bin .add (.t 8) (.c (.int .i64 1))), none⟩,
    ⟨some 8, .p (.mov (.t 15)), none⟩]))))
def g95_stone_sum_c : ACode := (.seq (.reg [⟨some 2, .p (.mov (.c (.int .i64 0))), none⟩])
  (.seq (.reg [⟨some 3, .p (.mov (.c (.int .i64 0))), none⟩])
  (.seq (.seq (.reg [⟨some 6, .p (.mov (.t 0)), none⟩,
    ⟨some 7, .p (.len (.t 6)), none⟩,
    ⟨some 8, .p (.mov (.c (.int .i64 0))), none⟩])
  (.block 0 (.loop g95_stone_sum_l0)))
  (.seq (.reg [⟨some 16, .p (.mov (.t 3)), none⟩,
    ⟨some 2, .p (.mov (.t 16)), none⟩])
  .ret))))
def g95_stone_sum : AFn := ⟨g95_stone_sum_c, [.t 2], 1⟩

/-- (macadam/stone.book).all$1 -/
def g96_stone_book_all_1_l0 : ACode := (.seq (.reg [⟨some 13, .p (.bin .lss (.t 12) (.t 11)), none⟩])
  (.seq (.cond (.t 13) .skip (.exit 0))
  (.seq (.block 1 (.seq (.reg [⟨some 14, .p (.mov (.t 12)), none⟩,
    ⟨some 15, .p (.iaddr none 4 (.t 10) (.t 12)), none⟩,
    ⟨some 16, .p (.loadC 4 true (.t 15)), none⟩,
    ⟨some 7, .p (.allocL 7 [.int .i64 0, .int .i64 0, .int .i64 0, .int .i64 0]), none⟩,
    ⟨some 6, .p (.mov (.t 14)), none⟩,
    ⟨none, .p (.storeL 7 4 none (.t 16)), none⟩])
  (.seq (.reg [⟨some 17, .p (.loadC 1 false (.t 2)), none⟩,
    ⟨some 18, .p (.loadL 7 4 true none), none⟩,
    ⟨some 19, .calli (.t 17) [.t 18], none⟩])
  (.cond (.t 19) (.reg [⟨some 20, .p (.mov (.t 5)), none⟩,
    ⟨some 21, .p (.mov (.t 6)), none⟩,
    ⟨some 22, .p (.lad 3 0), none⟩,
    ⟨some 23, .p (.iaddr (some 5) 1 (.t 22) (.t 21)), none⟩,
    ⟨some 24, .p (.loadL 3 1 false (some (.t 23))), none⟩,
    ⟨some 25, .p (.bin .add (.t 20) (.t 24)), none⟩,
    ⟨some 5, .p (.mov (.t 25)), none⟩]) .skip))))
  (.reg [⟨some 26, .p (.bin .add (.t 12) (.c (.int .i64 1))), none⟩,
    ⟨some 12, .p (.mov (.t 26)), none⟩]))))
def g96_stone_book_all_1_c : ACode := (.seq (.reg [⟨some 3, .p (.boxL 3 (.t 0)), none⟩,
    ⟨some 4, .p (.allocL 4 [.int .i64 0, .int .i64 0]), none⟩])
  (.seq (.reg [⟨some 5, .p (.mov (.c (.int .i64 0))), none⟩])
  (.seq (.seq (.reg [⟨some 8, .p (.faddr 0 (.t 1)), none⟩,
    ⟨some 9, .p (.faddr 1 (.t 8)), none⟩,
    ⟨some 10, .p (.loadC 1 false (.t 9)), none⟩,
    ⟨some 11, .p (.len (.t 10)), none⟩,
    ⟨some 12, .p (.mov (.c (.int .i64 0))), none⟩])
  (.block 0 (.loop g96_stone_book_all_1_l0)))
  (.seq (.reg [⟨some 27, .p (.mov (.t 5)), none⟩,
    ⟨some 28, .p (.mov (.t 5)), none⟩,
    ⟨some 29, .p (.build [.int .i64 0, .int .i64 0] [(0, 1, .t 27), (1, 1, .t 28)]), none⟩,
    ⟨none, .p (.storeL 4 2 none (.t 29)), none⟩])
  .ret))))
def g96_stone_book_all_1 : AFn := ⟨g96_stone_book_all_1_c, [.cellL 4 2 true], 3⟩

/-- (macadam/stone.book).truths$1 -/
def g97_stone_book_truths_1_c : ACode := (.seq (.reg [⟨some 2, .p (.boxL 2 (.t 0)), none⟩])
  (.seq (.reg [⟨some 5, .p (.loadC 8 true (.t 1)), none⟩,
    ⟨some 6, .p (.mkfn 98 [.t 5] []), none⟩,
    ⟨some 3, .p (.allocL 3 [.nilf]), none⟩,
    ⟨none, .p (.storeL 3 1 none (.t 6)), none⟩])
  (.seq (.reg [⟨some 4, .h (.alloc [.nilf]), none⟩])
  (.seq (.frz [2, 3] (.reg [⟨some 7, .p (.mkfn 99 [] [.t 1, .t 2, .t 3, .t 4]), none⟩,
    ⟨none, .h (.store 1 (.t 4) (.t 7)), none⟩]))
  (.reg [⟨some 8, .h (.load 1 false (.t 4)), none⟩,
    ⟨some 9, .calli (.f 94) [], none⟩,
    ⟨some 10, .call (.t 8) [.t 9, .c (.int .i64 0)], none⟩])))))
def g97_stone_book_truths_1 : AFn := ⟨g97_stone_book_truths_1_c, [], 2⟩

/-- (macadam/stone.book).right -/
def g98_stone_book_right_c : ACode := (.seq (.reg [⟨some 3, .p (.boxL 3 (.t 0)), none⟩,
    ⟨some 6, .p (.mov (.c (.bool false))), none⟩])
  (.seq (.reg [⟨some 8, .p (.lad 3 0), none⟩,
    ⟨some 9, .p (.faddr 1 (.t 8)), none⟩,
    ⟨some 10, .p (.loadL 3 1 false (some (.t 9))), none⟩,
    ⟨some 11, .p (.mov (.t 1)), none⟩,
    ⟨some 12, .p (.iaddr none 4 (.t 10) (.t 11)), none⟩,
    ⟨some 13, .p (.loadC 4 true (.t 12)), none⟩,
    ⟨some 7, .p (.allocL 7 [.int .i64 0, .int .i64 0, .int .i64 0, .int .i64 0]), none⟩,
    ⟨none, .p (.storeL 7 4 none (.t 13)), none⟩])
  (.seq (.reg [⟨some 14, .p (.lad 3 6), none⟩,
    ⟨some 15, .p (.faddr 0 (.t 14)), none⟩,
    ⟨some 16, .p (.loadL 3 1 false (some (.t 15))), none⟩,
    ⟨some 17, .p (.mov (.t 1)), none⟩,
    ⟨some 18, .calli (.t 16) [.t 17], none⟩,
    ⟨some 19, .p (.mov (.t 18)), none⟩,
    ⟨some 20, .p (.lad 7 3), (some (19, false))⟩,
    ⟨some 21, .p (.loadL 7 1 false (some (.t 20))), (some (19, false))⟩,
    ⟨some 22, .p (.mov (.t 2)), (some (19, false))⟩,
    ⟨some 23, .p (.bin .sub (.t 21) (.t 22)), (some (19, false))⟩,
    ⟨some 24, .p (.lad 7 2), (some (19, false))⟩,
    ⟨some 25, .p (.loadL 7 1 false (some (.t 24))), (some (19, false))⟩,
    ⟨some 26, .p (.lad 3 0), (some (19, false))⟩,
    ⟨some 27, .p (.faddr 2 (.t 26)), (some (19, false))⟩,
    ⟨some 28, .p (.iaddr (some 4) 1 (.t 27) (.t 25)), (some (19, false))⟩,
    ⟨some 29, .p (.loadL 3 1 false (some (.t 28))), (some (19, false))⟩,
    ⟨some 30, .calli (.f 59) [.t 23, .c (.int .i64 0), .t 29], (some (19, false))⟩,
    ⟨some 31, .p (.pick (.t 19) (.c (.bool true)) (.t 30)), none⟩,
    ⟨some 6, .p (.mov (.t 31)), none⟩])
  .ret)))
def g98_stone_book_right : AFn := ⟨g98_stone_book_right_c, [.t 6], 3⟩

/-- (macadam/stone.book).truths$1$1 -/
def g99_stone_book_truths_1_1_l0 : ACode := (.seq (.reg [⟨some 27, .p (.bin .lss (.t 26) (.t 25)), none⟩])
  (.seq (.cond (.t 27) .skip (.exit 0))
  (.seq (.block 1 (.seq (.reg [⟨some 28, .p (.mov (.t 26)), none⟩,
    ⟨some 10, .p (.mov (.t 28)), none⟩])
  (.seq (.reg [⟨some 30, .p (.loadC 8 true (.t 2)), none⟩,
    ⟨some 31, .p (.loadL 6 5 true none), none⟩,
    ⟨some 32, .p (.mov (.t 10)), none⟩,
    ⟨some 33, .calli (.f 100) [.t 30, .t 31, .t 32], none⟩,
    ⟨some 29, .p (.mov (.t 33)), none⟩,
    ⟨some 34, .p (.extract (.t 29) 0), none⟩,
    ⟨some 35, .p (.extract (.t 29) 1), none⟩,
    ⟨some 11, .p (.allocL 11 [.int .i64 0, .int .i64 0]), none⟩,
    ⟨none, .p (.storeL 11 2 none (.t 34)), none⟩,
    ⟨some 12, .p (.mov (.t 35)), none⟩])
  (.seq (.seq (.reg [⟨some 36, .p (.mov (.t 12)), none⟩,
    ⟨some 37, .p (.un .not (.t 36)), none⟩])
  (.cond (.t 37) (.seq (.reg [⟨some 8, .p (.mov (.c (.bool true))), none⟩])
  .ret) .skip))
  (.reg [⟨some 38, .p (.mov (.t 10)), none⟩,
    ⟨some 39, .p (.loadL 11 2 true none), none⟩,
    ⟨some 40, .p (.lad 9 5), none⟩,
    ⟨some 41, .p (.iaddr (some 4) 2 (.t 40) (.t 38)), none⟩,
    ⟨none, .p (.storeL 9 2 (some (.t 41)) (.t 39)), none⟩])))))
  (.reg [⟨some 42, .p (.bin .add (.t 26) (.c (.int .i64 1))), none⟩,
    ⟨some 26, .p (.mov (.t 42)), none⟩]))))
def g99_stone_book_truths_1_1_l1 : ACode := (.seq (.reg [⟨some 47, .p (.bin .lss (.t 46) (.c (.int .i64 7))), none⟩])
  (.seq (.cond (.t 47) .skip (.exit 2))
  (.seq (.block 3 (.seq (.reg [⟨some 48, .p (.mov (.t 46)), none⟩,
    ⟨some 13, .p (.mov (.t 48)), none⟩])
  (.seq (.seq (.reg [⟨some 49, .p (.loadC 1 false (.t 4)), none⟩,
    ⟨some 50, .p (.mov (.t 1)), none⟩,
    ⟨some 51, .p (.mov (.t 13)), none⟩,
    ⟨some 52, .calli (.t 49) [.t 50, .t 51], none⟩,
    ⟨some 53, .p (.un .not (.t 52)), none⟩])
  (.cond (.t 53) (.exit 3) .skip))
  (.seq (.reg [⟨some 54, .p (.mov (.t 1)), none⟩,
    ⟨some 55, .p (.mov (.t 13)), none⟩,
    ⟨some 56, .p (.ladi 6 5 1 (.t 54)), none⟩,
    ⟨none, .p (.storeL 6 1 (some (.t 56)) (.t 55)), none⟩])
  (.seq (.reg [⟨some 57, .h (.load 1 false (.t 5)), none⟩,
    ⟨some 58, .p (.loadL 6 5 true none), none⟩,
    ⟨some 59, .p (.mov (.t 1)), none⟩,
    ⟨some 60, .p (.bin .add (.t 59) (.c (.int .i64 1))), none⟩,
    ⟨some 61, .call (.t 57) [.t 58, .t 60], none⟩,
    ⟨some 62, .p (.un .not (.t 61)), none⟩])
  (.cond (.t 62) (.seq (.reg [⟨some 8, .p (.mov (.c (.bool false))), none⟩])
  .ret) .skip))))))
  (.reg [⟨some 63, .p (.bin .add (.t 46) (.c (.int .i64 1))), none⟩,
    ⟨some 46, .p (.mov (.t 63)), none⟩]))))
def g99_stone_book_truths_1_1_c : ACode := (.seq (.reg [⟨some 6, .p (.boxL 6 (.t 0)), none⟩,
    ⟨some 8, .p (.mov (.c (.bool false))), none⟩])
  (.scope (.seq (.seq (.reg [⟨some 14, .p (.mov (.t 1)), none⟩,
    ⟨some 15, .p (.faddr 0 (.t 2)), none⟩,
    ⟨some 16, .p (.faddr 1 (.t 15)), none⟩,
    ⟨some 17, .p (.loadC 1 false (.t 16)), none⟩,
    ⟨some 18, .p (.len (.t 17)), none⟩,
    ⟨some 19, .p (.bin .eql (.t 14) (.t 18)), none⟩])
  (.cond (.t 19) (.seq (.reg [⟨some 20, .p (.loadL 6 5 true none), none⟩,
    ⟨some 21, .p (.build [.int .i64 0, .int .i64 0, .int .i64 0, .int .i64 0, .int .i64 0, .int .i64 0, .int .i64 0, .int .i64 0, .int .i64 0, .int .i64 0, .int .i64 0, .int .i64 0, .int .i64 0] [(0, 5, .t 20)]), none⟩,
    ⟨some 9, .p (.allocL 9 [.int .i64 0, .int .i64 0, .int .i64 0, .int .i64 0, .int .i64 0, .int .i64 0, .int .i64 0, .int .i64 0, .int .i64 0, .int .i64 0, .int .i64 0, .int .i64 0, .int .i64 0]), none⟩,
    ⟨none, .p (.storeL 9 13 none (.t 21)), none⟩])
  (.seq (.seq (.reg [⟨some 22, .p (.faddr 0 (.t 2)), none⟩,
    ⟨some 23, .p (.faddr 0 (.t 22)), none⟩,
    ⟨some 24, .p (.loadC 1 false (.t 23)), none⟩,
    ⟨some 25, .p (.len (.t 24)), none⟩,
    ⟨some 26, .p (.mov (.c (.int .i64 0))), none⟩])
  (.block 0 (.loop g99_stone_book_truths_1_1_l0)))
  (.seq (.reg [⟨some 43, .p (.loadC 1 false (.t 3)), none⟩,
    ⟨some 44, .p (.loadL 9 13 true none), none⟩,
    ⟨some 45, .call (.t 43) [.t 44], none⟩,
    ⟨some 8, .p (.mov (.t 45)), none⟩])
  .ret))) .skip))
  (.seq .skip
  (.seq (.seq (.reg [⟨some 46, .p (.mov (.c (.int .i64 0))), none⟩])
  (.block 2 (.loop g99_stone_book_truths_1_1_l1)))
  (.seq (.reg [⟨some 8, .p (.mov (.c (.bool true))), none⟩])
  .ret))))))
def g99_stone_book_truths_1_1 : AFn := ⟨g99_stone_book_truths_1_1_c, [.t 8], 6⟩

/-- (macadam/stone.book).first -/
def g100_stone_book_first_l0 : ACode := (.seq (.reg [⟨some 51, .p (.bin .lss (.t 50) (.t 49)), none⟩])
  (.seq (.cond (.t 51) .skip (.exit 0))
  (.seq (.block 1 (.seq (.reg [⟨some 52, .p (.mov (.t 50)), none⟩,
    ⟨some 11, .p (.mov (.t 52)), none⟩])
  (.reg [⟨some 53, .p (.lad 10 0), none⟩,
    ⟨some 54, .p (.loadL 10 1 false (some (.t 53))), none⟩,
    ⟨some 55, .p (.loadL 3 8 true none), none⟩,
    ⟨some 56, .p (.loadL 4 5 true none), none⟩,
    ⟨some 57, .p (.mov (.t 2)), none⟩,
    ⟨some 58, .p (.mov (.t 11)), none⟩,
    ⟨some 59, .calli (.f 75) [.t 55, .t 56, .t 57, .t 58], none⟩,
    ⟨some 60, .p (.un .neg (.t 59)), none⟩,
    ⟨some 61, .p (.mx [.t 54, .t 60]), none⟩,
    ⟨some 62, .p (.lad 10 0), none⟩,
    ⟨none, .p (.storeL 10 1 (some (.t 62)) (.t 61)), none⟩])))
  (.reg [⟨some 63, .p (.bin .add (.t 50) (.c (.int .i64 1))), none⟩,
    ⟨some 50, .p (.mov (.t 63)), none⟩]))))
def g100_stone_book_first_c : ACode := (.seq (.reg [⟨some 3, .p (.boxL 3 (.t 0)), none⟩,
    ⟨some 4, .p (.boxL 4 (.t 1)), none⟩,
    ⟨some 6, .p (.allocL 6 [.int .i64 0, .int .i64 0]), none⟩,
    ⟨some 7, .p (.mov (.c (.bool false))), none⟩])
  (.seq (.reg [⟨some 12, .p (.lad 3 0), none⟩,
    ⟨some 13, .p (.faddr 0 (.t 12)), none⟩,
    ⟨some 14, .p (.loadL 3 1 false (some (.t 13))), none⟩,
    ⟨some 15, .p (.mov (.t 2)), none⟩,
    ⟨some 16, .p (.iaddr none 4 (.t 14) (.t 15)), none⟩,
    ⟨some 17, .p (.loadC 4 true (.t 16)), none⟩,
    ⟨some 18, .p (.loadL 3 8 true none), none⟩,
    ⟨some 19, .p (.loadL 4 5 true none), none⟩,
    ⟨some 20, .p (.mov (.t 2)), none⟩,
    ⟨some 21, .p (.lad 3 0), none⟩,
    ⟨some 22, .p (.faddr 1 (.t 21)), none⟩,
    ⟨some 23, .p (.loadL 3 1 false (some (.t 22))), none⟩,
    ⟨some 24, .p (.len (.t 23)), none⟩,
    ⟨some 25, .calli (.f 75) [.t 18, .t 19, .t 20, .t 24], none⟩,
    ⟨some 8, .p (.allocL 8 [.int .i64 0, .int .i64 0, .int .i64 0, .int .i64 0]), none⟩,
    ⟨none, .p (.storeL 8 4 none (.t 17)), none⟩,
    ⟨some 9, .p (.mov (.t 25)), none⟩])
  (.seq (.reg [⟨some 26, .p (.lad 8 0), none⟩,
    ⟨some 27, .p (.faddr 0 (.t 26)), none⟩,
    ⟨some 28, .p (.loadL 8 1 false (some (.t 27))), none⟩,
    ⟨some 29, .p (.lad 8 2), none⟩,
    ⟨some 30, .p (.faddr 0 (.t 29)), none⟩,
    ⟨some 31, .p (.loadL 8 1 false (some (.t 30))), none⟩,
    ⟨some 32, .p (.mov (.t 9)), none⟩,
    ⟨some 33, .p (.bin .sub (.t 31) (.t 32)), none⟩,
    ⟨some 34, .p (.mx [.t 28, .t 33]), none⟩,
    ⟨some 35, .p (.lad 8 0), none⟩,
    ⟨some 36, .p (.faddr 1 (.t 35)), none⟩,
    ⟨some 37, .p (.loadL 8 1 false (some (.t 36))), none⟩,
    ⟨some 38, .p (.lad 8 2), none⟩,
    ⟨some 39, .p (.faddr 1 (.t 38)), none⟩,
    ⟨some 40, .p (.loadL 8 1 false (some (.t 39))), none⟩,
    ⟨some 41, .p (.mov (.t 9)), none⟩,
    ⟨some 42, .p (.bin .sub (.t 40) (.t 41)), none⟩,
    ⟨some 43, .p (.mn [.t 37, .t 42]), none⟩,
    ⟨some 44, .p (.build [.int .i64 0, .int .i64 0] [(0, 1, .t 34), (1, 1, .t 43)]), none⟩,
    ⟨some 10, .p (.allocL 10 [.int .i64 0, .int .i64 0]), none⟩,
    ⟨none, .p (.storeL 10 2 none (.t 44)), none⟩])
  (.seq (.seq (.reg [⟨some 45, .p (.lad 3 0), none⟩,
    ⟨some 46, .p (.faddr 1 (.t 45)), none⟩,
    ⟨some 47, .p (.loadL 3 1 false (some (.t 46))), none⟩,
    ⟨some 48, .p (.len (.t 47)), none⟩,
    ⟨some 49, .p (.bin .add (.t 48) (.c (.int .i64 1))), none⟩,
    ⟨some 50, .p (.mov (.c (.int .i64 0))), none⟩])
  (.block 0 (.loop g100_stone_book_first_l0)))
  (.seq (.reg [⟨some 64, .p (.loadL 10 2 true none), none⟩,
    ⟨some 65, .p (.lad 10 0), none⟩,
    ⟨some 66, .p (.loadL 10 1 false (some (.t 65))), none⟩,
    ⟨some 67, .p (.lad 10 1), none⟩,
    ⟨some 68, .p (.loadL 10 1 false (some (.t 67))), none⟩,
    ⟨some 69, .p (.bin .leq (.t 66) (.t 68)), none⟩,
    ⟨none, .p (.storeL 6 2 none (.t 64)), none⟩,
    ⟨some 7, .p (.mov (.t 69)), none⟩])
  .ret)))))
def g100_stone_book_first : AFn := ⟨g100_stone_book_first_c, [.cellL 6 2 true, .t 7], 3⟩

/-- macadam/macadamlaw03.move -/
def g101_macadamlaw03_move_c : ACode := (.seq (.reg [⟨some 8, .p (.allocL 8 [.int .i64 0, .int .i64 0, .int .i64 0, .int .i64 0]), none⟩])
  (.seq (.reg [⟨some 9, .p (.mov (.t 0)), none⟩,
    ⟨some 10, .p (.mov (.t 1)), none⟩,
    ⟨some 11, .p (.mov (.t 2)), none⟩,
    ⟨some 12, .p (.mov (.t 3)), none⟩,
    ⟨some 13, .p (.build [.int .i64 0, .int .i64 0, .int .i64 0, .int .i64 0] [(0, 1, .t 9), (1, 1, .t 10), (2, 1, .t 11), (3, 1, .t 12)]), none⟩,
    ⟨none, .p (.storeL 8 4 none (.t 13)), none⟩])
  .ret))
def g101_macadamlaw03_move : AFn := ⟨g101_macadamlaw03_move_c, [.cellL 8 4 true], 4⟩

/-- slices.Index[[]int,int] -/
def g102_slices_Index_l0 : ACode := (.seq (.reg [⟨some 9, .p (.bin .lss (.t 8) (.t 7)), none⟩])
  (.seq (.cond (.t 9) .skip (.exit 0))
  (.seq (.block 1 (.seq (.reg [⟨some 10, .p (.mov (.t 8)), none⟩,
    ⟨some 5, .p (.mov (.t 10)), none⟩])
  (.seq (.reg [⟨some 11, .p (.mov (.t 1)), none⟩,
    ⟨some 12, .p (.mov (.t 0)), none⟩,
    ⟨some 13, .p (.mov (.t 5)), none⟩,
    ⟨some 14, .p (.iaddr none 1 (.t 12) (.t 13)), none⟩,
    ⟨some 15, .p (.loadC 1 false (.t 14)), none⟩,
    ⟨some 16, .p (.bin .eql (.t 11) (.t 15)), none⟩])
  (.cond (.t 16) (.seq (.reg [⟨some 17, .p (.mov (.t 5)), none⟩,
    ⟨some 4, .p (.mov (.t 17)), none⟩])
  .ret) .skip))))
  (.reg [⟨some 18, .p (.bin .add (.t 8) (.c (.int .i64 1))), none⟩,
    ⟨some 8, .p (.mov (.t 18)), none⟩]))))
def g102_slices_Index_c : ACode := (.seq (.reg [⟨some 4, .p (.mov (.c (.int .i64 0))), none⟩])
  (.seq (.seq (.reg [⟨some 6, .p (.mov (.t 0)), none⟩,
    ⟨some 7, .p (.len (.t 6)), none⟩,
    ⟨some 8, .p (.mov (.c (.int .i64 0))), none⟩])
  (.block 0 (.loop g102_slices_Index_l0)))
  (.seq (.reg [⟨some 4, .p (.mov (.c (.int .i64 (-1)))), none⟩])
  .ret)))
def g102_slices_Index : AFn := ⟨g102_slices_Index_c, [.t 4], 2⟩

/-- (macadam/stone.move).coming -/
def g118_stone_move_coming_c : ACode := (.seq (.reg [⟨some 3, .p (.boxL 3 (.t 0)), none⟩,
    ⟨some 6, .p (.mov (.c (.int .i64 0))), none⟩])
  (.seq (.seq (.reg [⟨some 7, .p (.lad 3 0), none⟩,
    ⟨some 8, .p (.loadL 3 1 false (some (.t 7))), none⟩,
    ⟨some 9, .p (.mov (.t 1)), none⟩,
    ⟨some 10, .p (.bin .eql (.t 8) (.t 9)), none⟩])
  (.cond (.t 10) (.seq (.reg [⟨some 11, .p (.mov (.t 2)), none⟩,
    ⟨some 12, .p (.un .neg (.t 11)), none⟩,
    ⟨some 6, .p (.mov (.t 12)), none⟩])
  .ret) .skip))
  (.seq (.reg [⟨some 6, .p (.mov (.c (.int .i64 0))), none⟩])
  .ret)))
def g118_stone_move_coming : AFn := ⟨g118_stone_move_coming_c, [.t 6], 3⟩

/-- (macadam/stone.move).going -/
def g120_stone_move_going_c : ACode := (.seq (.reg [⟨some 3, .p (.boxL 3 (.t 0)), none⟩,
    ⟨some 6, .p (.mov (.c (.int .i64 0))), none⟩])
  (.seq (.seq (.reg [⟨some 7, .p (.lad 3 1), none⟩,
    ⟨some 8, .p (.loadL 3 1 false (some (.t 7))), none⟩,
    ⟨some 9, .p (.mov (.t 1)), none⟩,
    ⟨some 10, .p (.bin .eql (.t 8) (.t 9)), none⟩])
  (.cond (.t 10) (.seq (.reg [⟨some 11, .p (.mov (.t 2)), none⟩,
    ⟨some 6, .p (.mov (.t 11)), none⟩])
  .ret) .skip))
  (.seq (.reg [⟨some 6, .p (.mov (.c (.int .i64 0))), none⟩])
  .ret)))
def g120_stone_move_going : AFn := ⟨g120_stone_move_going_c, [.t 6], 3⟩

end Av
end

section
/- The lowered program as a table. -/
namespace Av
open Go
def tbl : List (Option AFn) := [none, none, none, some g3_macadamlaw03_StoneYards, some g4_macadamlaw03_StoneOwes, some g5_macadamlaw03_StoneFits, some g6_macadamlaw03_StoneTrue, some g7_macadamlaw03_StoneEach, some g8_macadamlaw03_StoneHeap, some g9_macadamlaw03_StoneMore, some g10_macadamlaw03_StoneHonest, some g11_macadamlaw03_StoneLiar, some g12_macadamlaw03_StoneOwed, some g13_macadamlaw03_StoneWrong, none, some g15_stone_Right, some g16_macadamref03_Right, some g17_stone_Check, some g18_macadamref03_Check, some g19_stone_Yards, some g20_macadamref03_Yards, some g21_stone_Heap, some g22_macadamref03_Heap, some g23_macadamlaw03_heaped, some g24_stone_Laid, some g25_macadamref03_Laid, some g26_stone_Owed, some g27_macadamref03_Owed, some g28_stone_Liars, some g29_macadamref03_Liars, some g30_macadamref00_Like, some g31_stone_Fits, some g32_macadamref03_Fits, some g33_stone_Wrong, some g34_macadamref03_Wrong, some g35_macadamlaw03_sound, some g36_macadamlaw03_truly, some g37_macadamlaw03_rightly, some g38_macadamref00_Wrap, some g39_macadamref00_Holds, some g40_macadamref00_Rising, some g41_macadamref00_Just, some g42_macadamref00_Sane, some g43_macadamref00_Inner, some g44_macadamref00_Reach, some g45_macadamref00_Sum, some g46_macadamref00_Set, some g47_macadamref00_Place, some g48_macadamref00_All, some g49_macadamlaw03_freed, some g50_macadamref00_Fewer, some g51_macadamlaw03_mends, some g52_macadamlaw03_own, some g53_macadamlaw03_torn, some g54_macadamlaw03_full, some g55_stone_opened, some g56_stone_some, some g57_stone_book_isTrue, some g58_macadamref03_carted, some g59_stone_within, some g60_stone_isSpan, some g61_stone_isEnd, some g62_stone_isCarter, some g63_macadamref00_Amid, some g64_macadamref03_end, some g65_macadamref03_isCarter, some g66_stone_asked, some g67_stone_isMove, some g68_stone_book_told, some g69_stone_Yards_1, some g70_macadamref03_asked, some g71_macadamref03_isMove, some g72_macadamref03_ends, some g73_stone_isHeap, some g74_stone_Heap_1, some g75_stone_book_more, some g76_macadamref03_isHeap, some g77_macadamref03_firsts, some g78_macadamref03_heap, some g79_stone_book_all, some g80_stone_Laid_1, some g81_stone_Owed_1, some g82_stone_book_truths, some g83_stone_book_lied, some g84_stone_Wrong_1, some g85_macadamref00_From, some g86_macadamref00_Pick, some g87_macadamref00_In, some g88_macadamref00_Sooner, some g89_macadamlaw03_book, some g90_stone_some_1, some g91_slices_Contains, some g92_macadamref00_Put, some g93_macadamref00_Union, some g94_stone_nothing, some g95_stone_sum, some g96_stone_book_all_1, some g97_stone_book_truths_1, some g98_stone_book_right, some g99_stone_book_truths_1_1, some g100_stone_book_first, some g101_macadamlaw03_move, some g102_slices_Index, none, none, none, none, none, none, none, none, none, none, none, none, none, none, none, some g118_stone_move_coming, none, some g120_stone_move_going]
def tbl2 : Nat → Option AFn
  | _ => none
def pr : AProg := ⟨fun k => match tbl[k]? with | some x => x | none => none, fun
  | 0 => [.int .i64 (-1), .int .i64 (-1)]
  | 1 => [.fn 118 [] [], .fn 120 [] []]
  | _ => []⟩
theorem fn3 : pr.fn 3 = some g3_macadamlaw03_StoneYards := by rfl
theorem fn4 : pr.fn 4 = some g4_macadamlaw03_StoneOwes := by rfl
theorem fn5 : pr.fn 5 = some g5_macadamlaw03_StoneFits := by rfl
theorem fn6 : pr.fn 6 = some g6_macadamlaw03_StoneTrue := by rfl
theorem fn7 : pr.fn 7 = some g7_macadamlaw03_StoneEach := by rfl
theorem fn8 : pr.fn 8 = some g8_macadamlaw03_StoneHeap := by rfl
theorem fn9 : pr.fn 9 = some g9_macadamlaw03_StoneMore := by rfl
theorem fn10 : pr.fn 10 = some g10_macadamlaw03_StoneHonest := by rfl
theorem fn11 : pr.fn 11 = some g11_macadamlaw03_StoneLiar := by rfl
theorem fn12 : pr.fn 12 = some g12_macadamlaw03_StoneOwed := by rfl
theorem fn13 : pr.fn 13 = some g13_macadamlaw03_StoneWrong := by rfl
theorem fn15 : pr.fn 15 = some g15_stone_Right := by rfl
theorem fn16 : pr.fn 16 = some g16_macadamref03_Right := by rfl
theorem fn17 : pr.fn 17 = some g17_stone_Check := by rfl
theorem fn18 : pr.fn 18 = some g18_macadamref03_Check := by rfl
theorem fn19 : pr.fn 19 = some g19_stone_Yards := by rfl
theorem fn20 : pr.fn 20 = some g20_macadamref03_Yards := by rfl
theorem fn21 : pr.fn 21 = some g21_stone_Heap := by rfl
theorem fn22 : pr.fn 22 = some g22_macadamref03_Heap := by rfl
theorem fn23 : pr.fn 23 = some g23_macadamlaw03_heaped := by rfl
theorem fn24 : pr.fn 24 = some g24_stone_Laid := by rfl
theorem fn25 : pr.fn 25 = some g25_macadamref03_Laid := by rfl
theorem fn26 : pr.fn 26 = some g26_stone_Owed := by rfl
theorem fn27 : pr.fn 27 = some g27_macadamref03_Owed := by rfl
theorem fn28 : pr.fn 28 = some g28_stone_Liars := by rfl
theorem fn29 : pr.fn 29 = some g29_macadamref03_Liars := by rfl
theorem fn30 : pr.fn 30 = some g30_macadamref00_Like := by rfl
theorem fn31 : pr.fn 31 = some g31_stone_Fits := by rfl
theorem fn32 : pr.fn 32 = some g32_macadamref03_Fits := by rfl
theorem fn33 : pr.fn 33 = some g33_stone_Wrong := by rfl
theorem fn34 : pr.fn 34 = some g34_macadamref03_Wrong := by rfl
theorem fn35 : pr.fn 35 = some g35_macadamlaw03_sound := by rfl
theorem fn36 : pr.fn 36 = some g36_macadamlaw03_truly := by rfl
theorem fn37 : pr.fn 37 = some g37_macadamlaw03_rightly := by rfl
theorem fn38 : pr.fn 38 = some g38_macadamref00_Wrap := by rfl
theorem fn39 : pr.fn 39 = some g39_macadamref00_Holds := by rfl
theorem fn40 : pr.fn 40 = some g40_macadamref00_Rising := by rfl
theorem fn41 : pr.fn 41 = some g41_macadamref00_Just := by rfl
theorem fn42 : pr.fn 42 = some g42_macadamref00_Sane := by rfl
theorem fn43 : pr.fn 43 = some g43_macadamref00_Inner := by rfl
theorem fn44 : pr.fn 44 = some g44_macadamref00_Reach := by rfl
theorem fn45 : pr.fn 45 = some g45_macadamref00_Sum := by rfl
theorem fn46 : pr.fn 46 = some g46_macadamref00_Set := by rfl
theorem fn47 : pr.fn 47 = some g47_macadamref00_Place := by rfl
theorem fn48 : pr.fn 48 = some g48_macadamref00_All := by rfl
theorem fn49 : pr.fn 49 = some g49_macadamlaw03_freed := by rfl
theorem fn50 : pr.fn 50 = some g50_macadamref00_Fewer := by rfl
theorem fn51 : pr.fn 51 = some g51_macadamlaw03_mends := by rfl
theorem fn52 : pr.fn 52 = some g52_macadamlaw03_own := by rfl
theorem fn53 : pr.fn 53 = some g53_macadamlaw03_torn := by rfl
theorem fn54 : pr.fn 54 = some g54_macadamlaw03_full := by rfl
theorem fn55 : pr.fn 55 = some g55_stone_opened := by rfl
theorem fn56 : pr.fn 56 = some g56_stone_some := by rfl
theorem fn57 : pr.fn 57 = some g57_stone_book_isTrue := by rfl
theorem fn58 : pr.fn 58 = some g58_macadamref03_carted := by rfl
theorem fn59 : pr.fn 59 = some g59_stone_within := by rfl
theorem fn60 : pr.fn 60 = some g60_stone_isSpan := by rfl
theorem fn61 : pr.fn 61 = some g61_stone_isEnd := by rfl
theorem fn62 : pr.fn 62 = some g62_stone_isCarter := by rfl
theorem fn63 : pr.fn 63 = some g63_macadamref00_Amid := by rfl
theorem fn64 : pr.fn 64 = some g64_macadamref03_end := by rfl
theorem fn65 : pr.fn 65 = some g65_macadamref03_isCarter := by rfl
theorem fn66 : pr.fn 66 = some g66_stone_asked := by rfl
theorem fn67 : pr.fn 67 = some g67_stone_isMove := by rfl
theorem fn68 : pr.fn 68 = some g68_stone_book_told := by rfl
theorem fn69 : pr.fn 69 = some g69_stone_Yards_1 := by rfl
theorem fn70 : pr.fn 70 = some g70_macadamref03_asked := by rfl
theorem fn71 : pr.fn 71 = some g71_macadamref03_isMove := by rfl
theorem fn72 : pr.fn 72 = some g72_macadamref03_ends := by rfl
theorem fn73 : pr.fn 73 = some g73_stone_isHeap := by rfl
theorem fn74 : pr.fn 74 = some g74_stone_Heap_1 := by rfl
theorem fn75 : pr.fn 75 = some g75_stone_book_more := by rfl
theorem fn76 : pr.fn 76 = some g76_macadamref03_isHeap := by rfl
theorem fn77 : pr.fn 77 = some g77_macadamref03_firsts := by rfl
theorem fn78 : pr.fn 78 = some g78_macadamref03_heap := by rfl
theorem fn79 : pr.fn 79 = some g79_stone_book_all := by rfl
theorem fn80 : pr.fn 80 = some g80_stone_Laid_1 := by rfl
theorem fn81 : pr.fn 81 = some g81_stone_Owed_1 := by rfl
theorem fn82 : pr.fn 82 = some g82_stone_book_truths := by rfl
theorem fn83 : pr.fn 83 = some g83_stone_book_lied := by rfl
theorem fn84 : pr.fn 84 = some g84_stone_Wrong_1 := by rfl
theorem fn85 : pr.fn 85 = some g85_macadamref00_From := by rfl
theorem fn86 : pr.fn 86 = some g86_macadamref00_Pick := by rfl
theorem fn87 : pr.fn 87 = some g87_macadamref00_In := by rfl
theorem fn88 : pr.fn 88 = some g88_macadamref00_Sooner := by rfl
theorem fn89 : pr.fn 89 = some g89_macadamlaw03_book := by rfl
theorem fn90 : pr.fn 90 = some g90_stone_some_1 := by rfl
theorem fn91 : pr.fn 91 = some g91_slices_Contains := by rfl
theorem fn92 : pr.fn 92 = some g92_macadamref00_Put := by rfl
theorem fn93 : pr.fn 93 = some g93_macadamref00_Union := by rfl
theorem fn94 : pr.fn 94 = some g94_stone_nothing := by rfl
theorem fn95 : pr.fn 95 = some g95_stone_sum := by rfl
theorem fn96 : pr.fn 96 = some g96_stone_book_all_1 := by rfl
theorem fn97 : pr.fn 97 = some g97_stone_book_truths_1 := by rfl
theorem fn98 : pr.fn 98 = some g98_stone_book_right := by rfl
theorem fn99 : pr.fn 99 = some g99_stone_book_truths_1_1 := by rfl
theorem fn100 : pr.fn 100 = some g100_stone_book_first := by rfl
theorem fn101 : pr.fn 101 = some g101_macadamlaw03_move := by rfl
theorem fn102 : pr.fn 102 = some g102_slices_Index := by rfl
theorem fn118 : pr.fn 118 = some g118_stone_move_coming := by rfl
theorem fn120 : pr.fn 120 = some g120_stone_move_going := by rfl
end Av
end
