/- The checks of the small code against the loaded functions. -/
import Derived.Test.YtnielhfaioakkaaClapV10
import Derived.Test.YtnielhfaioakkaaProg
open Go Go.Clap
set_option linter.unusedVariables false
set_option maxRecDepth 1000000
namespace Go.Clap
theorem tc59 : chkF SS Proofs.Try.prog id 59 ir59 = true := by kernel_rfl
theorem tc38 : chkF SS Proofs.Try.prog id 38 ir38 = true := by kernel_rfl
theorem tc53 : chkF SS Proofs.Try.prog id 53 ir53 = true := by kernel_rfl
theorem tc52 : chkF SS Proofs.Try.prog id 52 ir52 = true := by kernel_rfl
theorem tc78 : chkF SS Proofs.Try.prog id 78 ir78 = true := by kernel_rfl
theorem tc54 : chkF SS Proofs.Try.prog id 54 ir54 = true := by kernel_rfl
theorem tc56 : chkF SS Proofs.Try.prog id 56 ir56 = true := by kernel_rfl
theorem tc55 : chkF SS Proofs.Try.prog id 55 ir55 = true := by kernel_rfl
theorem tc34 : chkF SS Proofs.Try.prog id 34 ir34 = true := by kernel_rfl
theorem tc11 : chkF SS Proofs.Try.prog id 11 ir11 = true := by kernel_rfl
theorem tc75 : chkF SS Proofs.Try.prog id 75 ir75 = true := by kernel_rfl
theorem tc76 : chkF SS Proofs.Try.prog id 76 ir76 = true := by kernel_rfl
theorem tc127 : chkF SS Proofs.Try.prog id 127 ir127 = true := by kernel_rfl
theorem tc99 : chkF SS Proofs.Try.prog id 99 ir99 = true := by kernel_rfl
theorem tc100 : chkF SS Proofs.Try.prog id 100 ir100 = true := by kernel_rfl
theorem tc128 : chkF SS Proofs.Try.prog id 128 ir128 = true := by kernel_rfl
theorem tc151 : chkF SS Proofs.Try.prog id 151 ir151 = true := by kernel_rfl
theorem tc163 : chkF SS Proofs.Try.prog id 163 ir163 = true := by kernel_rfl
theorem tc152 : chkF SS Proofs.Try.prog id 152 ir152 = true := by kernel_rfl
theorem tc129 : chkF SS Proofs.Try.prog id 129 ir129 = true := by kernel_rfl
theorem tc101 : chkF SS Proofs.Try.prog id 101 ir101 = true := by kernel_rfl
theorem tc77 : chkF SS Proofs.Try.prog id 77 ir77 = true := by kernel_rfl
theorem tc51 : chkF SS Proofs.Try.prog id 51 ir51 = true := by kernel_rfl
theorem tc44 : chkF SS Proofs.Try.prog id 44 ir44 = true := by kernel_rfl
theorem tc30 : chkF SS Proofs.Try.prog id 30 ir30 = true := by kernel_rfl
theorem tc26 : chkF SS Proofs.Try.prog id 26 ir26 = true := by kernel_rfl
theorem tc8 : chkF SS Proofs.Try.prog id 8 ir8 = true := by kernel_rfl
theorem tc31 : chkF SS Proofs.Try.prog id 31 ir31 = true := by kernel_rfl
theorem tc33 : chkF SS Proofs.Try.prog id 33 ir33 = true := by kernel_rfl
theorem tc132 : chkF SS Proofs.Try.prog id 132 ir132 = true := by kernel_rfl
theorem tc32 : chkF SS Proofs.Try.prog id 32 ir32 = true := by kernel_rfl
theorem tc9 : chkF SS Proofs.Try.prog id 9 ir9 = true := by kernel_rfl
theorem tc10 : chkF SS Proofs.Try.prog id 10 ir10 = true := by kernel_rfl
theorem tc3 : chkF SS Proofs.Try.prog id 3 ir3 = true := by kernel_rfl
theorem hcmp : HCmp Proofs.Try.prog id := ⟨by kernel_rfl, tc59, tc38, tc53, tc52, tc78, tc54, tc56, tc55, tc34, tc11⟩
theorem hval : HVal Proofs.Try.prog id := ⟨hcmp, tc75, tc76, tc127, tc99, tc100, tc128, tc151, tc163, tc152, tc129, tc101, tc77, tc51, tc44, tc30, tc26, tc8, tc31, tc33, tc132, tc32, tc9⟩
theorem hmetric : HMetric Proofs.Try.prog id := ⟨hval, tc10, tc3⟩
end Go.Clap
