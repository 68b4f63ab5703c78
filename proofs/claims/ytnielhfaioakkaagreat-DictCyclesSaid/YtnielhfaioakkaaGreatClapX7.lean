/- The checks of the small code against the functions of the second group, for DictCycles. -/
import Derived.Test.YtnielhfaioakkaaGreatClapV30
import Derived.Test.YtnielhfaioakkaaGreatClapX6
open Go Go.Clap Go.Shelf
set_option linter.unusedVariables false
set_option maxRecDepth 1000000
namespace Go.Clap
theorem tz326 : chkF SS Proofs.Tryz.prog fidZ 326 ir326 = true := by kernel_rfl
theorem tz346 : chkF SS Proofs.Tryz.prog fidZ 346 ir346 = true := by kernel_rfl
theorem tz369 : chkF SS Proofs.Tryz.prog fidZ 369 ir369 = true := by kernel_rfl
theorem tz386 : chkF SS Proofs.Tryz.prog fidZ 386 ir386 = true := by kernel_rfl
theorem tz392 : chkF SS Proofs.Tryz.prog fidZ 392 ir392 = true := by kernel_rfl
theorem tz327 : chkF SS Proofs.Tryz.prog fidZ 327 ir327 = true := by kernel_rfl
theorem tz306 : chkF SS Proofs.Tryz.prog fidZ 306 ir306 = true := by kernel_rfl
theorem hcyc : HCyc Proofs.Tryz.prog fidZ := ⟨⟨htab, tz309⟩, tz326, tz346, tz369, tz386, tz392, tz327, tz306⟩
end Go.Clap
