/- The checks of the small code against the loaded functions, for AlignKept. -/
import Derived.Test.YtnielhfaioakkaaClapV19
import Derived.Test.YtnielhfaioakkaaClapX3
open Go Go.Clap
set_option linter.unusedVariables false
set_option maxRecDepth 1000000
namespace Go.Clap
theorem tc57 : chkF SS Proofs.Try.prog id 57 ir57 = true := by kernel_rfl
theorem tc79 : chkF SS Proofs.Try.prog id 79 ir79 = true := by kernel_rfl
theorem tc35 : chkF SS Proofs.Try.prog id 35 ir35 = true := by kernel_rfl
theorem tc16 : chkF SS Proofs.Try.prog id 16 ir16 = true := by kernel_rfl
theorem tc17 : chkF SS Proofs.Try.prog id 17 ir17 = true := by kernel_rfl
theorem tc37 : chkF SS Proofs.Try.prog id 37 ir37 = true := by kernel_rfl
theorem tc80 : chkF SS Proofs.Try.prog id 80 ir80 = true := by kernel_rfl
theorem tc58 : chkF SS Proofs.Try.prog id 58 ir58 = true := by kernel_rfl
theorem tc36 : chkF SS Proofs.Try.prog id 36 ir36 = true := by kernel_rfl
theorem tc18 : chkF SS Proofs.Try.prog id 18 ir18 = true := by kernel_rfl
theorem tc19 : chkF SS Proofs.Try.prog id 19 ir19 = true := by kernel_rfl
theorem tc20 : chkF SS Proofs.Try.prog id 20 ir20 = true := by kernel_rfl
theorem tc5 : chkF SS Proofs.Try.prog id 5 ir5 = true := by kernel_rfl
theorem hcopy : HCopy Proofs.Try.prog id := ⟨hval, tc57, tc79, tc35⟩
theorem hkept : HKept Proofs.Try.prog id := ⟨hcopy, tc10, tc12, tc16, tc17, tc37, tc80, tc58, tc36, tc18, tc19, tc20, tc5⟩
end Go.Clap
