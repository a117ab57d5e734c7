/-
  NARROWER THAN 'FOR EVERY INPUT', by the rows' own cells (each row's printed sentence says how): StoneYards: laid · StoneOwes: laid · StoneFits: laid · StoneTrue: laid · StoneEach: laid · StoneHeap: laid · StoneMore: laid · StoneHonest: laid · StoneLiar: laid · StoneOwed: laid · StoneWrong: laid · StoneKnown: laid.
  DERIVED. THE GIVEN ROWS OF THIS SEAT. 12 by the template 'for every input the law returns true; each argument reads behind the call as it read before'; 0 by the template 'total and deterministic' (their statements: YtpjhmbfpfbpciaaDoorTotals.lean).
  GIVEN WITH THE SEED: the statements are not yours to turn. If you find one false, say at which input.
  Laid BY PROGRAM, IN A SANDBOX (cutbox-rows.mjs): the forced cells as the released guide's own fill.sh prints them over the translation 5cdfdc64f6f816f8… (all of the seat's roots in one cut). By AI agents, Wed Nov 11 2026. No macro, syntax, notation, axiom, sorry.
-/
import Derived.Test.YtpjhmbfpfbpciaaDoorChecked
import GoSem.Claim
import GoSem.ClaimJoined
import GoSem.ClaimMapViews
import Derived.JoinedTies
import Derived.KernelRfl
namespace Go.Proofs.YtpjhmbfpfbpciaaDoor
/- THE CELL 'sum', in the pinned program and in every row, IS THE sha256 OF THE DUMP (.gsa) THAT YtpjhmbfpfbpciaaDoorProg.lean LOADS. Nothing in Lean hashes anything: it is a label: what it is worth is what the hold of that sum in a sandbox is worth. -/
noncomputable def Tryd.pinned : Pinned := { name := "ytpjhmbfpfbpciaadoor", sum := "5cdfdc64f6f816f8a5eedee0da32679b16dc032da2f6aca7cfffb8e00a13ab6b", checked := Tryd.checked }
namespace Rows
def none {H : Type} : Left H := { results := [], args := [] }

/- WHAT THE LISTED PACKAGE-LEVEL VARIABLES READ AS WHEN THE CALL BEGINS. Each datum BY PROGRAM (the guide's laid-datum.mjs) off the statement by which the dump's own 'gosem.cut.vars' lays the variable. In a bare row this is a premise. The card (YtpjhmbfpfbpciaaDoorCards.lean) ties it to the program's text. -/
def laid_macadam_stone_ends {H : Type} : DataW H := .iface "func table" (.agg [.iface "func" (.lit (.string [40, 109, 97, 99, 97, 100, 97, 109, 47, 115, 116, 111, 110, 101, 46, 109, 111, 118, 101, 41, 46, 99, 111, 109, 105, 110, 103])), .iface "func" (.lit (.string [40, 109, 97, 99, 97, 100, 97, 109, 47, 115, 116, 111, 110, 101, 46, 109, 111, 118, 101, 41, 46, 103, 111, 105, 110, 103]))])
def laid_macadam_stone_nowhere {H : Type} : DataW H := .agg [.lit (.int .i64 (-1)), .lit (.int .i64 (-1))]

/-- 'macadamlaw03.StoneYards': WHATEVER THE INPUT: true; the input reads as it did. -/
def stoneYardsSpec : ChangeSpec := { name := "stoneYards", fn := fun _ => fun
  | [d1, d2] => { results := [.lit (.bool true)], args := [d1, d2] }
  | _ => none }
def stoneYardsRow : OpenClaim := { program := "ytpjhmbfpfbpciaadoor", sum := "5cdfdc64f6f816f8a5eedee0da32679b16dc032da2f6aca7cfffb8e00a13ab6b", func := "macadam/macadamlaw03.StoneYards", spec := "stoneYards", unfollowed := true, recurses := true, named := ["macadam/stone.nowhere", "macadam/stone.ends"], plainKeys := false, apart := false, laid := [("macadam/stone.ends", laid_macadam_stone_ends), ("macadam/stone.nowhere", laid_macadam_stone_nowhere)] }
def StoneYardsSaid : Prop := stoneYardsRow.holds Tryd.pinned (OpenSpec.ofChange stoneYardsSpec)

/-- ITS FALSE NEIGHBOUR: 'it returns false'. Refute it at one input. -/
def stoneYardsWrong : ChangeSpec := { name := "stoneYards", fn := fun _ => fun
  | [d1, d2] => { results := [.lit (.bool false)], args := [d1, d2] }
  | _ => none }
def StoneYardsWrongFalsely : Prop := stoneYardsRow.holds Tryd.pinned (OpenSpec.ofChange stoneYardsWrong)

/-- 'macadamlaw03.StoneOwes': WHATEVER THE INPUT: true; the input reads as it did. -/
def stoneOwesSpec : ChangeSpec := { name := "stoneOwes", fn := fun _ => fun
  | [d1, d2] => { results := [.lit (.bool true)], args := [d1, d2] }
  | _ => none }
def stoneOwesRow : OpenClaim := { program := "ytpjhmbfpfbpciaadoor", sum := "5cdfdc64f6f816f8a5eedee0da32679b16dc032da2f6aca7cfffb8e00a13ab6b", func := "macadam/macadamlaw03.StoneOwes", spec := "stoneOwes", unfollowed := true, recurses := true, named := ["macadam/stone.nowhere", "macadam/stone.ends"], plainKeys := false, apart := false, laid := [("macadam/stone.ends", laid_macadam_stone_ends), ("macadam/stone.nowhere", laid_macadam_stone_nowhere)] }
def StoneOwesSaid : Prop := stoneOwesRow.holds Tryd.pinned (OpenSpec.ofChange stoneOwesSpec)

/-- ITS FALSE NEIGHBOUR: 'it returns false'. Refute it at one input. -/
def stoneOwesWrong : ChangeSpec := { name := "stoneOwes", fn := fun _ => fun
  | [d1, d2] => { results := [.lit (.bool false)], args := [d1, d2] }
  | _ => none }
def StoneOwesWrongFalsely : Prop := stoneOwesRow.holds Tryd.pinned (OpenSpec.ofChange stoneOwesWrong)

/-- 'macadamlaw03.StoneFits': WHATEVER THE INPUT: true; the input reads as it did. -/
def stoneFitsSpec : ChangeSpec := { name := "stoneFits", fn := fun _ => fun
  | [d1, d2] => { results := [.lit (.bool true)], args := [d1, d2] }
  | _ => none }
def stoneFitsRow : OpenClaim := { program := "ytpjhmbfpfbpciaadoor", sum := "5cdfdc64f6f816f8a5eedee0da32679b16dc032da2f6aca7cfffb8e00a13ab6b", func := "macadam/macadamlaw03.StoneFits", spec := "stoneFits", unfollowed := true, recurses := true, named := ["macadam/stone.nowhere", "macadam/stone.ends"], plainKeys := false, apart := false, laid := [("macadam/stone.ends", laid_macadam_stone_ends), ("macadam/stone.nowhere", laid_macadam_stone_nowhere)] }
def StoneFitsSaid : Prop := stoneFitsRow.holds Tryd.pinned (OpenSpec.ofChange stoneFitsSpec)

/-- ITS FALSE NEIGHBOUR: 'it returns false'. Refute it at one input. -/
def stoneFitsWrong : ChangeSpec := { name := "stoneFits", fn := fun _ => fun
  | [d1, d2] => { results := [.lit (.bool false)], args := [d1, d2] }
  | _ => none }
def StoneFitsWrongFalsely : Prop := stoneFitsRow.holds Tryd.pinned (OpenSpec.ofChange stoneFitsWrong)

/-- 'macadamlaw03.StoneTrue': WHATEVER THE INPUT: true; the input reads as it did. -/
def stoneTrueSpec : ChangeSpec := { name := "stoneTrue", fn := fun _ => fun
  | [d1, d2, d3] => { results := [.lit (.bool true)], args := [d1, d2, d3] }
  | _ => none }
def stoneTrueRow : OpenClaim := { program := "ytpjhmbfpfbpciaadoor", sum := "5cdfdc64f6f816f8a5eedee0da32679b16dc032da2f6aca7cfffb8e00a13ab6b", func := "macadam/macadamlaw03.StoneTrue", spec := "stoneTrue", unfollowed := true, recurses := true, named := ["macadam/stone.nowhere", "macadam/stone.ends"], plainKeys := false, apart := false, laid := [("macadam/stone.ends", laid_macadam_stone_ends), ("macadam/stone.nowhere", laid_macadam_stone_nowhere)] }
def StoneTrueSaid : Prop := stoneTrueRow.holds Tryd.pinned (OpenSpec.ofChange stoneTrueSpec)

/-- ITS FALSE NEIGHBOUR: 'it returns false'. Refute it at one input. -/
def stoneTrueWrong : ChangeSpec := { name := "stoneTrue", fn := fun _ => fun
  | [d1, d2, d3] => { results := [.lit (.bool false)], args := [d1, d2, d3] }
  | _ => none }
def StoneTrueWrongFalsely : Prop := stoneTrueRow.holds Tryd.pinned (OpenSpec.ofChange stoneTrueWrong)

/-- 'macadamlaw03.StoneEach': WHATEVER THE INPUT: true; the input reads as it did. -/
def stoneEachSpec : ChangeSpec := { name := "stoneEach", fn := fun _ => fun
  | [d1, d2] => { results := [.lit (.bool true)], args := [d1, d2] }
  | _ => none }
def stoneEachRow : OpenClaim := { program := "ytpjhmbfpfbpciaadoor", sum := "5cdfdc64f6f816f8a5eedee0da32679b16dc032da2f6aca7cfffb8e00a13ab6b", func := "macadam/macadamlaw03.StoneEach", spec := "stoneEach", unfollowed := true, recurses := true, named := ["macadam/stone.nowhere", "macadam/stone.ends"], plainKeys := false, apart := false, laid := [("macadam/stone.ends", laid_macadam_stone_ends), ("macadam/stone.nowhere", laid_macadam_stone_nowhere)] }
def StoneEachSaid : Prop := stoneEachRow.holds Tryd.pinned (OpenSpec.ofChange stoneEachSpec)

/-- ITS FALSE NEIGHBOUR: 'it returns false'. Refute it at one input. -/
def stoneEachWrong : ChangeSpec := { name := "stoneEach", fn := fun _ => fun
  | [d1, d2] => { results := [.lit (.bool false)], args := [d1, d2] }
  | _ => none }
def StoneEachWrongFalsely : Prop := stoneEachRow.holds Tryd.pinned (OpenSpec.ofChange stoneEachWrong)

/-- 'macadamlaw03.StoneHeap': WHATEVER THE INPUT: true; the input reads as it did. -/
def stoneHeapSpec : ChangeSpec := { name := "stoneHeap", fn := fun _ => fun
  | [d1, d2] => { results := [.lit (.bool true)], args := [d1, d2] }
  | _ => none }
def stoneHeapRow : OpenClaim := { program := "ytpjhmbfpfbpciaadoor", sum := "5cdfdc64f6f816f8a5eedee0da32679b16dc032da2f6aca7cfffb8e00a13ab6b", func := "macadam/macadamlaw03.StoneHeap", spec := "stoneHeap", unfollowed := true, recurses := true, named := ["macadam/stone.nowhere", "macadam/stone.ends"], plainKeys := false, apart := false, laid := [("macadam/stone.ends", laid_macadam_stone_ends), ("macadam/stone.nowhere", laid_macadam_stone_nowhere)] }
def StoneHeapSaid : Prop := stoneHeapRow.holds Tryd.pinned (OpenSpec.ofChange stoneHeapSpec)

/-- ITS FALSE NEIGHBOUR: 'it returns false'. Refute it at one input. -/
def stoneHeapWrong : ChangeSpec := { name := "stoneHeap", fn := fun _ => fun
  | [d1, d2] => { results := [.lit (.bool false)], args := [d1, d2] }
  | _ => none }
def StoneHeapWrongFalsely : Prop := stoneHeapRow.holds Tryd.pinned (OpenSpec.ofChange stoneHeapWrong)

/-- 'macadamlaw03.StoneMore': WHATEVER THE INPUT: true; the input reads as it did. -/
def stoneMoreSpec : ChangeSpec := { name := "stoneMore", fn := fun _ => fun
  | [d1, d2] => { results := [.lit (.bool true)], args := [d1, d2] }
  | _ => none }
def stoneMoreRow : OpenClaim := { program := "ytpjhmbfpfbpciaadoor", sum := "5cdfdc64f6f816f8a5eedee0da32679b16dc032da2f6aca7cfffb8e00a13ab6b", func := "macadam/macadamlaw03.StoneMore", spec := "stoneMore", unfollowed := true, recurses := true, named := ["macadam/stone.nowhere", "macadam/stone.ends"], plainKeys := false, apart := false, laid := [("macadam/stone.ends", laid_macadam_stone_ends), ("macadam/stone.nowhere", laid_macadam_stone_nowhere)] }
def StoneMoreSaid : Prop := stoneMoreRow.holds Tryd.pinned (OpenSpec.ofChange stoneMoreSpec)

/-- ITS FALSE NEIGHBOUR: 'it returns false'. Refute it at one input. -/
def stoneMoreWrong : ChangeSpec := { name := "stoneMore", fn := fun _ => fun
  | [d1, d2] => { results := [.lit (.bool false)], args := [d1, d2] }
  | _ => none }
def StoneMoreWrongFalsely : Prop := stoneMoreRow.holds Tryd.pinned (OpenSpec.ofChange stoneMoreWrong)

/-- 'macadamlaw03.StoneHonest': WHATEVER THE INPUT: true; the input reads as it did. -/
def stoneHonestSpec : ChangeSpec := { name := "stoneHonest", fn := fun _ => fun
  | [d1, d2] => { results := [.lit (.bool true)], args := [d1, d2] }
  | _ => none }
def stoneHonestRow : OpenClaim := { program := "ytpjhmbfpfbpciaadoor", sum := "5cdfdc64f6f816f8a5eedee0da32679b16dc032da2f6aca7cfffb8e00a13ab6b", func := "macadam/macadamlaw03.StoneHonest", spec := "stoneHonest", unfollowed := true, recurses := true, named := ["macadam/stone.nowhere", "macadam/stone.ends"], plainKeys := false, apart := false, laid := [("macadam/stone.ends", laid_macadam_stone_ends), ("macadam/stone.nowhere", laid_macadam_stone_nowhere)] }
def StoneHonestSaid : Prop := stoneHonestRow.holds Tryd.pinned (OpenSpec.ofChange stoneHonestSpec)

/-- ITS FALSE NEIGHBOUR: 'it returns false'. Refute it at one input. -/
def stoneHonestWrong : ChangeSpec := { name := "stoneHonest", fn := fun _ => fun
  | [d1, d2] => { results := [.lit (.bool false)], args := [d1, d2] }
  | _ => none }
def StoneHonestWrongFalsely : Prop := stoneHonestRow.holds Tryd.pinned (OpenSpec.ofChange stoneHonestWrong)

/-- 'macadamlaw03.StoneLiar': WHATEVER THE INPUT: true; the input reads as it did. -/
def stoneLiarSpec : ChangeSpec := { name := "stoneLiar", fn := fun _ => fun
  | [d1, d2] => { results := [.lit (.bool true)], args := [d1, d2] }
  | _ => none }
def stoneLiarRow : OpenClaim := { program := "ytpjhmbfpfbpciaadoor", sum := "5cdfdc64f6f816f8a5eedee0da32679b16dc032da2f6aca7cfffb8e00a13ab6b", func := "macadam/macadamlaw03.StoneLiar", spec := "stoneLiar", unfollowed := true, recurses := true, named := ["macadam/stone.nowhere", "macadam/stone.ends"], plainKeys := false, apart := false, laid := [("macadam/stone.ends", laid_macadam_stone_ends), ("macadam/stone.nowhere", laid_macadam_stone_nowhere)] }
def StoneLiarSaid : Prop := stoneLiarRow.holds Tryd.pinned (OpenSpec.ofChange stoneLiarSpec)

/-- ITS FALSE NEIGHBOUR: 'it returns false'. Refute it at one input. -/
def stoneLiarWrong : ChangeSpec := { name := "stoneLiar", fn := fun _ => fun
  | [d1, d2] => { results := [.lit (.bool false)], args := [d1, d2] }
  | _ => none }
def StoneLiarWrongFalsely : Prop := stoneLiarRow.holds Tryd.pinned (OpenSpec.ofChange stoneLiarWrong)

/-- 'macadamlaw03.StoneOwed': WHATEVER THE INPUT: true; the input reads as it did. -/
def stoneOwedSpec : ChangeSpec := { name := "stoneOwed", fn := fun _ => fun
  | [d1, d2] => { results := [.lit (.bool true)], args := [d1, d2] }
  | _ => none }
def stoneOwedRow : OpenClaim := { program := "ytpjhmbfpfbpciaadoor", sum := "5cdfdc64f6f816f8a5eedee0da32679b16dc032da2f6aca7cfffb8e00a13ab6b", func := "macadam/macadamlaw03.StoneOwed", spec := "stoneOwed", unfollowed := true, recurses := true, named := ["macadam/stone.nowhere", "macadam/stone.ends"], plainKeys := false, apart := false, laid := [("macadam/stone.ends", laid_macadam_stone_ends), ("macadam/stone.nowhere", laid_macadam_stone_nowhere)] }
def StoneOwedSaid : Prop := stoneOwedRow.holds Tryd.pinned (OpenSpec.ofChange stoneOwedSpec)

/-- ITS FALSE NEIGHBOUR: 'it returns false'. Refute it at one input. -/
def stoneOwedWrong : ChangeSpec := { name := "stoneOwed", fn := fun _ => fun
  | [d1, d2] => { results := [.lit (.bool false)], args := [d1, d2] }
  | _ => none }
def StoneOwedWrongFalsely : Prop := stoneOwedRow.holds Tryd.pinned (OpenSpec.ofChange stoneOwedWrong)

/-- 'macadamlaw03.StoneWrong': WHATEVER THE INPUT: true; the input reads as it did. -/
def stoneWrongSpec : ChangeSpec := { name := "stoneWrong", fn := fun _ => fun
  | [d1, d2, d3] => { results := [.lit (.bool true)], args := [d1, d2, d3] }
  | _ => none }
def stoneWrongRow : OpenClaim := { program := "ytpjhmbfpfbpciaadoor", sum := "5cdfdc64f6f816f8a5eedee0da32679b16dc032da2f6aca7cfffb8e00a13ab6b", func := "macadam/macadamlaw03.StoneWrong", spec := "stoneWrong", unfollowed := true, recurses := true, named := ["macadam/stone.nowhere", "macadam/stone.ends"], plainKeys := false, apart := false, laid := [("macadam/stone.ends", laid_macadam_stone_ends), ("macadam/stone.nowhere", laid_macadam_stone_nowhere)] }
def StoneWrongSaid : Prop := stoneWrongRow.holds Tryd.pinned (OpenSpec.ofChange stoneWrongSpec)

/-- ITS FALSE NEIGHBOUR: 'it returns false'. Refute it at one input. -/
def stoneWrongWrong : ChangeSpec := { name := "stoneWrong", fn := fun _ => fun
  | [d1, d2, d3] => { results := [.lit (.bool false)], args := [d1, d2, d3] }
  | _ => none }
def StoneWrongWrongFalsely : Prop := stoneWrongRow.holds Tryd.pinned (OpenSpec.ofChange stoneWrongWrong)

/-- 'macadamlaw03.StoneKnown': WHATEVER THE INPUT: true; the input reads as it did. -/
def stoneKnownSpec : ChangeSpec := { name := "stoneKnown", fn := fun _ => fun
  | [] => { results := [.lit (.bool true)], args := [] }
  | _ => none }
def stoneKnownRow : OpenClaim := { program := "ytpjhmbfpfbpciaadoor", sum := "5cdfdc64f6f816f8a5eedee0da32679b16dc032da2f6aca7cfffb8e00a13ab6b", func := "macadam/macadamlaw03.StoneKnown", spec := "stoneKnown", unfollowed := true, recurses := true, named := ["macadam/stone.nowhere", "macadam/stone.ends"], plainKeys := false, apart := false, laid := [("macadam/stone.ends", laid_macadam_stone_ends), ("macadam/stone.nowhere", laid_macadam_stone_nowhere)] }
def StoneKnownSaid : Prop := stoneKnownRow.holds Tryd.pinned (OpenSpec.ofChange stoneKnownSpec)

/-- ITS FALSE NEIGHBOUR: 'it returns false'. Refute it at one input. -/
def stoneKnownWrong : ChangeSpec := { name := "stoneKnown", fn := fun _ => fun
  | [] => { results := [.lit (.bool false)], args := [] }
  | _ => none }
def StoneKnownWrongFalsely : Prop := stoneKnownRow.holds Tryd.pinned (OpenSpec.ofChange stoneKnownWrong)

/- THE SECOND FORM. 'bulk': how many values and letters a reading holds, each counted each time it is reached (what is shared counts as often as it is met; a slice's spare places count too). A statement '..UptoSaid' is the law's where the arguments, and the package variables that the reading takes, are together of bulk at most 1048576: NARROWER than '..Said'. Prove '..Said' where nothing that the law and all that it calls make is longer than what came in: it says more and counts as full. Else prove '..UptoSaid'. A law counts once. -/
mutual
def uptoBulk {H : Type} : DataW H → Nat
  | .lit (.string bytes) => bytes.length + 1
  | .lit _ => 1
  | .nil => 1
  | .ptr d => uptoBulk d + 1
  | .slice elems spare => uptoBulkAll elems + uptoBulkAll spare + 1
  | .agg parts => uptoBulkAll parts + 1
  | .iface _ d => uptoBulk d + 1
  | .map entries => uptoBulkEntries entries + 1
  | .held _ => 1
def uptoBulkAll {H : Type} : List (DataW H) → Nat
  | [] => 0
  | d :: r => uptoBulk d + uptoBulkAll r
def uptoBulkEntries {H : Type} : List (Lit × DataW H) → Nat
  | [] => 0
  | x :: r => uptoBulkEntry x + uptoBulkEntries r
def uptoBulkEntry {H : Type} : Lit × DataW H → Nat
  | (.string bytes, d) => bytes.length + uptoBulk d + 1
  | (_, d) => uptoBulk d + 1
 end
def uptoSmall : (H : Type) → List (DataW H) → Bool := fun _ ds => decide (uptoBulkAll ds ≤ 1048576)
def OpenSpec.upto (s : _root_.Go.ChangeSpec) : _root_.Go.OpenSpec := { _root_.Go.OpenSpec.ofChange s with cond := some uptoSmall }

/-- 'macadamlaw03.StoneYards', WHERE WHAT IT READS IS OF BULK AT MOST 1048576: true; the input reads as it did. -/
def stoneYardsUptoRow : OpenClaim := { program := "ytpjhmbfpfbpciaadoor", sum := "5cdfdc64f6f816f8a5eedee0da32679b16dc032da2f6aca7cfffb8e00a13ab6b", func := "macadam/macadamlaw03.StoneYards", spec := "stoneYards", unfollowed := true, recurses := true, named := ["macadam/stone.nowhere", "macadam/stone.ends"], plainKeys := false, apart := false, laid := [("macadam/stone.ends", laid_macadam_stone_ends), ("macadam/stone.nowhere", laid_macadam_stone_nowhere)], narrowed := true }
def StoneYardsUptoSaid : Prop := stoneYardsUptoRow.holds Tryd.pinned (OpenSpec.upto stoneYardsSpec)

/-- 'macadamlaw03.StoneOwes', WHERE WHAT IT READS IS OF BULK AT MOST 1048576: true; the input reads as it did. -/
def stoneOwesUptoRow : OpenClaim := { program := "ytpjhmbfpfbpciaadoor", sum := "5cdfdc64f6f816f8a5eedee0da32679b16dc032da2f6aca7cfffb8e00a13ab6b", func := "macadam/macadamlaw03.StoneOwes", spec := "stoneOwes", unfollowed := true, recurses := true, named := ["macadam/stone.nowhere", "macadam/stone.ends"], plainKeys := false, apart := false, laid := [("macadam/stone.ends", laid_macadam_stone_ends), ("macadam/stone.nowhere", laid_macadam_stone_nowhere)], narrowed := true }
def StoneOwesUptoSaid : Prop := stoneOwesUptoRow.holds Tryd.pinned (OpenSpec.upto stoneOwesSpec)

/-- 'macadamlaw03.StoneFits', WHERE WHAT IT READS IS OF BULK AT MOST 1048576: true; the input reads as it did. -/
def stoneFitsUptoRow : OpenClaim := { program := "ytpjhmbfpfbpciaadoor", sum := "5cdfdc64f6f816f8a5eedee0da32679b16dc032da2f6aca7cfffb8e00a13ab6b", func := "macadam/macadamlaw03.StoneFits", spec := "stoneFits", unfollowed := true, recurses := true, named := ["macadam/stone.nowhere", "macadam/stone.ends"], plainKeys := false, apart := false, laid := [("macadam/stone.ends", laid_macadam_stone_ends), ("macadam/stone.nowhere", laid_macadam_stone_nowhere)], narrowed := true }
def StoneFitsUptoSaid : Prop := stoneFitsUptoRow.holds Tryd.pinned (OpenSpec.upto stoneFitsSpec)

/-- 'macadamlaw03.StoneTrue', WHERE WHAT IT READS IS OF BULK AT MOST 1048576: true; the input reads as it did. -/
def stoneTrueUptoRow : OpenClaim := { program := "ytpjhmbfpfbpciaadoor", sum := "5cdfdc64f6f816f8a5eedee0da32679b16dc032da2f6aca7cfffb8e00a13ab6b", func := "macadam/macadamlaw03.StoneTrue", spec := "stoneTrue", unfollowed := true, recurses := true, named := ["macadam/stone.nowhere", "macadam/stone.ends"], plainKeys := false, apart := false, laid := [("macadam/stone.ends", laid_macadam_stone_ends), ("macadam/stone.nowhere", laid_macadam_stone_nowhere)], narrowed := true }
def StoneTrueUptoSaid : Prop := stoneTrueUptoRow.holds Tryd.pinned (OpenSpec.upto stoneTrueSpec)

/-- 'macadamlaw03.StoneEach', WHERE WHAT IT READS IS OF BULK AT MOST 1048576: true; the input reads as it did. -/
def stoneEachUptoRow : OpenClaim := { program := "ytpjhmbfpfbpciaadoor", sum := "5cdfdc64f6f816f8a5eedee0da32679b16dc032da2f6aca7cfffb8e00a13ab6b", func := "macadam/macadamlaw03.StoneEach", spec := "stoneEach", unfollowed := true, recurses := true, named := ["macadam/stone.nowhere", "macadam/stone.ends"], plainKeys := false, apart := false, laid := [("macadam/stone.ends", laid_macadam_stone_ends), ("macadam/stone.nowhere", laid_macadam_stone_nowhere)], narrowed := true }
def StoneEachUptoSaid : Prop := stoneEachUptoRow.holds Tryd.pinned (OpenSpec.upto stoneEachSpec)

/-- 'macadamlaw03.StoneHeap', WHERE WHAT IT READS IS OF BULK AT MOST 1048576: true; the input reads as it did. -/
def stoneHeapUptoRow : OpenClaim := { program := "ytpjhmbfpfbpciaadoor", sum := "5cdfdc64f6f816f8a5eedee0da32679b16dc032da2f6aca7cfffb8e00a13ab6b", func := "macadam/macadamlaw03.StoneHeap", spec := "stoneHeap", unfollowed := true, recurses := true, named := ["macadam/stone.nowhere", "macadam/stone.ends"], plainKeys := false, apart := false, laid := [("macadam/stone.ends", laid_macadam_stone_ends), ("macadam/stone.nowhere", laid_macadam_stone_nowhere)], narrowed := true }
def StoneHeapUptoSaid : Prop := stoneHeapUptoRow.holds Tryd.pinned (OpenSpec.upto stoneHeapSpec)

/-- 'macadamlaw03.StoneMore', WHERE WHAT IT READS IS OF BULK AT MOST 1048576: true; the input reads as it did. -/
def stoneMoreUptoRow : OpenClaim := { program := "ytpjhmbfpfbpciaadoor", sum := "5cdfdc64f6f816f8a5eedee0da32679b16dc032da2f6aca7cfffb8e00a13ab6b", func := "macadam/macadamlaw03.StoneMore", spec := "stoneMore", unfollowed := true, recurses := true, named := ["macadam/stone.nowhere", "macadam/stone.ends"], plainKeys := false, apart := false, laid := [("macadam/stone.ends", laid_macadam_stone_ends), ("macadam/stone.nowhere", laid_macadam_stone_nowhere)], narrowed := true }
def StoneMoreUptoSaid : Prop := stoneMoreUptoRow.holds Tryd.pinned (OpenSpec.upto stoneMoreSpec)

/-- 'macadamlaw03.StoneHonest', WHERE WHAT IT READS IS OF BULK AT MOST 1048576: true; the input reads as it did. -/
def stoneHonestUptoRow : OpenClaim := { program := "ytpjhmbfpfbpciaadoor", sum := "5cdfdc64f6f816f8a5eedee0da32679b16dc032da2f6aca7cfffb8e00a13ab6b", func := "macadam/macadamlaw03.StoneHonest", spec := "stoneHonest", unfollowed := true, recurses := true, named := ["macadam/stone.nowhere", "macadam/stone.ends"], plainKeys := false, apart := false, laid := [("macadam/stone.ends", laid_macadam_stone_ends), ("macadam/stone.nowhere", laid_macadam_stone_nowhere)], narrowed := true }
def StoneHonestUptoSaid : Prop := stoneHonestUptoRow.holds Tryd.pinned (OpenSpec.upto stoneHonestSpec)

/-- 'macadamlaw03.StoneLiar', WHERE WHAT IT READS IS OF BULK AT MOST 1048576: true; the input reads as it did. -/
def stoneLiarUptoRow : OpenClaim := { program := "ytpjhmbfpfbpciaadoor", sum := "5cdfdc64f6f816f8a5eedee0da32679b16dc032da2f6aca7cfffb8e00a13ab6b", func := "macadam/macadamlaw03.StoneLiar", spec := "stoneLiar", unfollowed := true, recurses := true, named := ["macadam/stone.nowhere", "macadam/stone.ends"], plainKeys := false, apart := false, laid := [("macadam/stone.ends", laid_macadam_stone_ends), ("macadam/stone.nowhere", laid_macadam_stone_nowhere)], narrowed := true }
def StoneLiarUptoSaid : Prop := stoneLiarUptoRow.holds Tryd.pinned (OpenSpec.upto stoneLiarSpec)

/-- 'macadamlaw03.StoneOwed', WHERE WHAT IT READS IS OF BULK AT MOST 1048576: true; the input reads as it did. -/
def stoneOwedUptoRow : OpenClaim := { program := "ytpjhmbfpfbpciaadoor", sum := "5cdfdc64f6f816f8a5eedee0da32679b16dc032da2f6aca7cfffb8e00a13ab6b", func := "macadam/macadamlaw03.StoneOwed", spec := "stoneOwed", unfollowed := true, recurses := true, named := ["macadam/stone.nowhere", "macadam/stone.ends"], plainKeys := false, apart := false, laid := [("macadam/stone.ends", laid_macadam_stone_ends), ("macadam/stone.nowhere", laid_macadam_stone_nowhere)], narrowed := true }
def StoneOwedUptoSaid : Prop := stoneOwedUptoRow.holds Tryd.pinned (OpenSpec.upto stoneOwedSpec)

/-- 'macadamlaw03.StoneWrong', WHERE WHAT IT READS IS OF BULK AT MOST 1048576: true; the input reads as it did. -/
def stoneWrongUptoRow : OpenClaim := { program := "ytpjhmbfpfbpciaadoor", sum := "5cdfdc64f6f816f8a5eedee0da32679b16dc032da2f6aca7cfffb8e00a13ab6b", func := "macadam/macadamlaw03.StoneWrong", spec := "stoneWrong", unfollowed := true, recurses := true, named := ["macadam/stone.nowhere", "macadam/stone.ends"], plainKeys := false, apart := false, laid := [("macadam/stone.ends", laid_macadam_stone_ends), ("macadam/stone.nowhere", laid_macadam_stone_nowhere)], narrowed := true }
def StoneWrongUptoSaid : Prop := stoneWrongUptoRow.holds Tryd.pinned (OpenSpec.upto stoneWrongSpec)

/-- 'macadamlaw03.StoneKnown', WHERE WHAT IT READS IS OF BULK AT MOST 1048576: true; the input reads as it did. -/
def stoneKnownUptoRow : OpenClaim := { program := "ytpjhmbfpfbpciaadoor", sum := "5cdfdc64f6f816f8a5eedee0da32679b16dc032da2f6aca7cfffb8e00a13ab6b", func := "macadam/macadamlaw03.StoneKnown", spec := "stoneKnown", unfollowed := true, recurses := true, named := ["macadam/stone.nowhere", "macadam/stone.ends"], plainKeys := false, apart := false, laid := [("macadam/stone.ends", laid_macadam_stone_ends), ("macadam/stone.nowhere", laid_macadam_stone_nowhere)], narrowed := true }
def StoneKnownUptoSaid : Prop := stoneKnownUptoRow.holds Tryd.pinned (OpenSpec.upto stoneKnownSpec)

end Rows
end Go.Proofs.YtpjhmbfpfbpciaaDoor
