/- The examples, run by the kernel: no condition. -/
import Derived.KernelRfl
import Derived.Test.YtnlflblfonkapaaGreatDoorAvME
import Derived.Test.YtnlflblfonkapaaGreatDoorAvMG
set_option linter.all false
set_option linter.unusedSectionVars false
set_option linter.unusedVariables false
set_option linter.unusedSimpArgs false
set_option linter.unnecessarySimpa false
section
/- The examples: the kernel runs them. -/
set_option linter.unusedVariables false
namespace Av
open Go (IntKind BinOp UnOp)
def okB : Option (AV × H) → Bool
  | some (.bool true, _) => true
  | _ => false
set_option maxRecDepth 100000 in
theorem run6 : okB (callx pr 400 (.fn 6 [] []) [] H.emp) = true := by kernel_rfl
theorem k6 : icall pr (.fn 6 [] []) [] = some (.bool true) := by
  have h := run6
  cases hq : callx pr 400 (.fn 6 [] []) [] H.emp with
  | none => rw [hq] at h; cases h
  | some q =>
    rw [hq] at h
    obtain ⟨v, h'⟩ := q
    have hv : v = .bool true := by
      unfold okB at h
      split at h
      · rename_i heq; cases heq; rfl
      · cases h
    subst hv
    exact icall_of pr rfl rfl ((dcall_iff ..).2 ⟨400, hq⟩) rfl rfl
end Av
end
