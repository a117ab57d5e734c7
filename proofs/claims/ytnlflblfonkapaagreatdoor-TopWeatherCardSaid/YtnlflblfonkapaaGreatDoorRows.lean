/-
  NARROWER THAN 'FOR EVERY INPUT', by the rows' own cells (each row's printed sentence says how): TopWeather: laid.
  DERIVED. THE GIVEN ROWS OF THIS SEAT. 1 by the template 'for every input the law returns true; each argument reads behind the call as it read before'; 0 by the template 'total and deterministic' (their statements: YtnlflblfonkapaaGreatDoorTotals.lean).
  GIVEN WITH THE SEED: the statements are not yours to turn. If you find one false, say at which input.
  Laid BY PROGRAM, IN A SANDBOX (cutbox-rows.mjs): the forced cells as the released guide's own fill.sh prints them over the translation 1eff121975ca6158… (all of the seat's roots in one cut). By AI agents, Wed Nov 11 2026. No macro, syntax, notation, axiom, sorry.
-/
import Derived.Test.YtnlflblfonkapaaGreatDoorChecked
import GoSem.Claim
import GoSem.ClaimJoined
import GoSem.ClaimMapViews
import Derived.JoinedTies
import Derived.KernelRfl
namespace Go.Proofs.YtnlflblfonkapaaGreatDoor
/- THE CELL 'sum', in the pinned program and in every row, IS THE sha256 OF THE DUMP (.gsa) THAT YtnlflblfonkapaaGreatDoorProg.lean LOADS. Nothing in Lean hashes anything: it is a label: what it is worth is what the hold of that sum in a sandbox is worth. -/
noncomputable def Tryz.pinned : Pinned := { name := "ytnlflblfonkapaagreatdoor", sum := "1eff121975ca615835764330e37570ad0479f8cea4192c0fe48cd55a3fccc81c", checked := Tryz.checked }
namespace Rows
def none {H : Type} : Left H := { results := [], args := [] }

/- WHAT THE LISTED PACKAGE-LEVEL VARIABLES READ AS WHEN THE CALL BEGINS. Each datum BY PROGRAM (the guide's laid-datum.mjs) off the statement by which the dump's own 'gosem.cut.vars' lays the variable. In a bare row this is a premise. The card (YtnlflblfonkapaaGreatDoorCards.lean) ties it to the program's text. -/
def laid_macadam_claim_nowhere {H : Type} : DataW H := .agg [.lit (.int .i64 (-1)), .lit (.int .i64 (-1))]
def laid_macadam_claim_kinds {H : Type} : DataW H := .iface "func table" (.agg [.iface "func" (.lit (.string [40, 109, 97, 99, 97, 100, 97, 109, 47, 99, 108, 97, 105, 109, 46, 118, 111, 116, 101, 115, 41, 46, 115, 111, 109, 101])), .iface "func" (.lit (.string [40, 109, 97, 99, 97, 100, 97, 109, 47, 99, 108, 97, 105, 109, 46, 118, 111, 116, 101, 115, 41, 46, 101, 97, 99, 104]))])
def laid_macadam_drain_drains {H : Type} : DataW H := .iface "func table" (.agg [.iface "func" (.lit (.string [40, 109, 97, 99, 97, 100, 97, 109, 47, 100, 114, 97, 105, 110, 46, 100, 105, 116, 99, 104, 41, 46, 98, 108, 111, 99, 107, 101, 100])), .iface "func" (.lit (.string [40, 109, 97, 99, 97, 100, 97, 109, 47, 100, 114, 97, 105, 110, 46, 100, 105, 116, 99, 104, 41, 46, 111, 112, 101, 110]))])
def laid_macadam_drain_nowhere {H : Type} : DataW H := .agg [.lit (.int .i64 (-1)), .lit (.int .i64 (-1))]
def laid_macadam_rut_nowhere {H : Type} : DataW H := .agg [.lit (.int .i64 (-1)), .lit (.int .i64 (-1))]
def laid_macadam_rut_asks {H : Type} : DataW H := .iface "func table" (.agg [.iface "func" (.lit (.string [40, 109, 97, 99, 97, 100, 97, 109, 47, 114, 117, 116, 46, 98, 111, 111, 107, 41, 46, 109, 97, 121])), .iface "func" (.lit (.string [40, 109, 97, 99, 97, 100, 97, 109, 47, 114, 117, 116, 46, 98, 111, 111, 107, 41, 46, 109, 117, 115, 116]))])
def laid_macadam_stone_ends {H : Type} : DataW H := .iface "func table" (.agg [.iface "func" (.lit (.string [40, 109, 97, 99, 97, 100, 97, 109, 47, 115, 116, 111, 110, 101, 46, 109, 111, 118, 101, 41, 46, 99, 111, 109, 105, 110, 103])), .iface "func" (.lit (.string [40, 109, 97, 99, 97, 100, 97, 109, 47, 115, 116, 111, 110, 101, 46, 109, 111, 118, 101, 41, 46, 103, 111, 105, 110, 103]))])
def laid_macadam_stone_nowhere {H : Type} : DataW H := .agg [.lit (.int .i64 (-1)), .lit (.int .i64 (-1))]

/-- 'macadamtop.TopWeather': WHATEVER THE INPUT: true; the input reads as it did. -/
def topWeatherSpec : ChangeSpec := { name := "topWeather", fn := fun _ => fun
  | [d1, d2] => { results := [.lit (.bool true)], args := [d1, d2] }
  | _ => none }
def topWeatherRow : OpenClaim := { program := "ytnlflblfonkapaagreatdoor", sum := "1eff121975ca615835764330e37570ad0479f8cea4192c0fe48cd55a3fccc81c", func := "macadam/macadamtop.TopWeather", spec := "topWeather", unfollowed := true, recurses := true, named := ["macadam/drain.nowhere", "macadam/drain.drains", "macadam/stone.nowhere", "macadam/stone.ends", "macadam/claim.nowhere", "macadam/rut.nowhere", "macadam/claim.kinds", "macadam/rut.asks"], plainKeys := false, apart := false, laid := [("macadam/claim.nowhere", laid_macadam_claim_nowhere), ("macadam/claim.kinds", laid_macadam_claim_kinds), ("macadam/drain.drains", laid_macadam_drain_drains), ("macadam/drain.nowhere", laid_macadam_drain_nowhere), ("macadam/rut.nowhere", laid_macadam_rut_nowhere), ("macadam/rut.asks", laid_macadam_rut_asks), ("macadam/stone.ends", laid_macadam_stone_ends), ("macadam/stone.nowhere", laid_macadam_stone_nowhere)] }
def TopWeatherSaid : Prop := topWeatherRow.holds Tryz.pinned (OpenSpec.ofChange topWeatherSpec)

/-- ITS FALSE NEIGHBOUR: 'it returns false'. Refute it at one input. -/
def topWeatherWrong : ChangeSpec := { name := "topWeather", fn := fun _ => fun
  | [d1, d2] => { results := [.lit (.bool false)], args := [d1, d2] }
  | _ => none }
def TopWeatherWrongFalsely : Prop := topWeatherRow.holds Tryz.pinned (OpenSpec.ofChange topWeatherWrong)

/- THE SECOND FORM. 'bulk': how many values and letters a reading holds, each counted each time it is reached (what is shared counts as often as it is met; a slice's spare places count too). A statement '..UptoSaid' is the law's where the arguments, and the package variables that the reading takes, are together of bulk at most 1048576: NARROWER than '..Said'. Prove '..Said' where nothing that the law and all that it calls make is longer than what came in: it says more and counts as full. Else prove '..UptoSaid'. A law counts once. -/
mutual
def uptoBulk {H : Type} : DataW H → Nat
  | .lit (.string bytes) => bytes.length + 1
  | .lit _ => 1
  | .nil => 1
  | .ptr d => uptoBulk d + 1
  | .slice elems spare => uptoBulkAll elems + uptoBulkAll spare + 1
  | .agg parts => uptoBulkAll parts + 1
  | .iface _ d => uptoBulk d + 1
  | .map entries => uptoBulkEntries entries + 1
  | .held _ => 1
def uptoBulkAll {H : Type} : List (DataW H) → Nat
  | [] => 0
  | d :: r => uptoBulk d + uptoBulkAll r
def uptoBulkEntries {H : Type} : List (Lit × DataW H) → Nat
  | [] => 0
  | x :: r => uptoBulkEntry x + uptoBulkEntries r
def uptoBulkEntry {H : Type} : Lit × DataW H → Nat
  | (.string bytes, d) => bytes.length + uptoBulk d + 1
  | (_, d) => uptoBulk d + 1
 end
def uptoSmall : (H : Type) → List (DataW H) → Bool := fun _ ds => decide (uptoBulkAll ds ≤ 1048576)
def OpenSpec.upto (s : _root_.Go.ChangeSpec) : _root_.Go.OpenSpec := { _root_.Go.OpenSpec.ofChange s with cond := some uptoSmall }

/-- 'macadamtop.TopWeather', WHERE WHAT IT READS IS OF BULK AT MOST 1048576: true; the input reads as it did. -/
def topWeatherUptoRow : OpenClaim := { program := "ytnlflblfonkapaagreatdoor", sum := "1eff121975ca615835764330e37570ad0479f8cea4192c0fe48cd55a3fccc81c", func := "macadam/macadamtop.TopWeather", spec := "topWeather", unfollowed := true, recurses := true, named := ["macadam/drain.nowhere", "macadam/drain.drains", "macadam/stone.nowhere", "macadam/stone.ends", "macadam/claim.nowhere", "macadam/rut.nowhere", "macadam/claim.kinds", "macadam/rut.asks"], plainKeys := false, apart := false, laid := [("macadam/claim.nowhere", laid_macadam_claim_nowhere), ("macadam/claim.kinds", laid_macadam_claim_kinds), ("macadam/drain.drains", laid_macadam_drain_drains), ("macadam/drain.nowhere", laid_macadam_drain_nowhere), ("macadam/rut.nowhere", laid_macadam_rut_nowhere), ("macadam/rut.asks", laid_macadam_rut_asks), ("macadam/stone.ends", laid_macadam_stone_ends), ("macadam/stone.nowhere", laid_macadam_stone_nowhere)], narrowed := true }
def TopWeatherUptoSaid : Prop := topWeatherUptoRow.holds Tryz.pinned (OpenSpec.upto topWeatherSpec)

end Rows
end Go.Proofs.YtnlflblfonkapaaGreatDoor
