/- The checks of the small code against the loaded functions, for AlignLeast. -/
import Derived.Test.YtnielhfaioakkaaClapV13
import Derived.Test.YtnielhfaioakkaaClapX2
open Go Go.Clap
set_option linter.unusedVariables false
set_option maxRecDepth 1000000
namespace Go.Clap
theorem tc12 : chkF SS Proofs.Try.prog id 12 ir12 = true := by kernel_rfl
theorem tc13 : chkF SS Proofs.Try.prog id 13 ir13 = true := by kernel_rfl
theorem tc14 : chkF SS Proofs.Try.prog id 14 ir14 = true := by kernel_rfl
theorem tc15 : chkF SS Proofs.Try.prog id 15 ir15 = true := by kernel_rfl
theorem tc4 : chkF SS Proofs.Try.prog id 4 ir4 = true := by kernel_rfl
theorem hleast : HLeast Proofs.Try.prog id := ⟨hval, tc10, tc12, tc13, tc14, tc15, tc4⟩
end Go.Clap
