/- The checks of the small code against the functions of the second group, for DictExtends. -/
import Derived.Test.YtnielhfaioakkaaGreatClapV33
import Derived.Test.YtnielhfaioakkaaGreatClapX6
open Go Go.Clap Go.Shelf
set_option linter.unusedVariables false
set_option maxRecDepth 1000000
namespace Go.Clap
theorem tz337 : chkF SS Proofs.Tryz.prog fidZ 337 ir337 = true := by kernel_rfl
theorem tz318 : chkF SS Proofs.Tryz.prog fidZ 318 ir318 = true := by kernel_rfl
theorem tz317 : chkF SS Proofs.Tryz.prog fidZ 317 ir317 = true := by kernel_rfl
theorem tz316 : chkF SS Proofs.Tryz.prog fidZ 316 ir316 = true := by kernel_rfl
theorem tz304 : chkF SS Proofs.Tryz.prog fidZ 304 ir304 = true := by kernel_rfl
theorem hext : HExt Proofs.Tryz.prog fidZ := ⟨htab, tz337, tz318, tz317, tz316, tz304⟩
end Go.Clap
