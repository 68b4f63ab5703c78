/- The checks of the small code against the loaded functions, for DictThree. -/
import Derived.Test.YtnielhfaioakkaaClapV25
import Derived.Test.YtnielhfaioakkaaClapX4
open Go Go.Clap Go.Shelf
set_option linter.unusedVariables false
set_option maxRecDepth 1000000
namespace Go.Clap
theorem tc94 : chkF SS Proofs.Try.prog id 94 ir94 = true := by kernel_rfl
theorem tc95 : chkF SS Proofs.Try.prog id 95 ir95 = true := by kernel_rfl
theorem tc70 : chkF SS Proofs.Try.prog id 70 ir70 = true := by kernel_rfl
theorem tc96 : chkF SS Proofs.Try.prog id 96 ir96 = true := by kernel_rfl
theorem tc116 : chkF SS Proofs.Try.prog id 116 ir116 = true := by kernel_rfl
theorem tc144 : chkF SS Proofs.Try.prog id 144 ir144 = true := by kernel_rfl
theorem tc145 : chkF SS Proofs.Try.prog id 145 ir145 = true := by kernel_rfl
theorem tc158 : chkF SS Proofs.Try.prog id 158 ir158 = true := by kernel_rfl
theorem tc161 : chkF SS Proofs.Try.prog id 161 ir161 = true := by kernel_rfl
theorem tc46 : chkF SS Proofs.Try.prog id 46 ir46 = true := by kernel_rfl
theorem tc71 : chkF SS Proofs.Try.prog id 71 ir71 = true := by kernel_rfl
theorem tc72 : chkF SS Proofs.Try.prog id 72 ir72 = true := by kernel_rfl
theorem tc47 : chkF SS Proofs.Try.prog id 47 ir47 = true := by kernel_rfl
theorem tc48 : chkF SS Proofs.Try.prog id 48 ir48 = true := by kernel_rfl
theorem tc73 : chkF SS Proofs.Try.prog id 73 ir73 = true := by kernel_rfl
theorem tc74 : chkF SS Proofs.Try.prog id 74 ir74 = true := by kernel_rfl
theorem tc97 : chkF SS Proofs.Try.prog id 97 ir97 = true := by kernel_rfl
theorem tc117 : chkF SS Proofs.Try.prog id 117 ir117 = true := by kernel_rfl
theorem tc98 : chkF SS Proofs.Try.prog id 98 ir98 = true := by kernel_rfl
theorem tc126 : chkF SS Proofs.Try.prog id 126 ir126 = true := by kernel_rfl
theorem tc28 : chkF SS Proofs.Try.prog id 28 ir28 = true := by kernel_rfl
theorem tc29 : chkF SS Proofs.Try.prog id 29 ir29 = true := by kernel_rfl
theorem tc49 : chkF SS Proofs.Try.prog id 49 ir49 = true := by kernel_rfl
theorem tc50 : chkF SS Proofs.Try.prog id 50 ir50 = true := by kernel_rfl
theorem tc27 : chkF SS Proofs.Try.prog id 27 ir27 = true := by kernel_rfl
theorem tc7 : chkF SS Proofs.Try.prog id 7 ir7 = true := by kernel_rfl
def ren23 (k : Nat) : Ren := ⟨fun x => match x with | 23 => k | n => n, fun x => x, fun x => x⟩
theorem lays23 : Proofs.Lays2.n23 Proofs.Try.prog (ren23 45) where
  mixed := by kernel_rfl
  f23 := by kernel_rfl
  t0 := by kernel_rfl
  a0 := fun w => by kernel_rfl
  z0 := fun w => by kernel_rfl
  v0 := fun w => by kernel_rfl
  t3 := by kernel_rfl
  a3 := fun w => by kernel_rfl
  z3 := fun w => by kernel_rfl
  v3 := fun w => by kernel_rfl
  t4 := by kernel_rfl
  a4 := fun w => by kernel_rfl
  z4 := fun w => by kernel_rfl
  v4 := fun w => by kernel_rfl
  t22 := by kernel_rfl
  a22 := fun w => by kernel_rfl
  z22 := fun w => by kernel_rfl
  v22 := fun w => by kernel_rfl
  i3 := by kernel_rfl
theorem hlook : HLook Proofs.Try.prog id := ⟨hcopy, tc94, tc95, tc70, tc96, tc116, tc144, tc145, tc158, tc161, tc46, tc71, tc72, tc47, tc48, tc73, tc74, tc97, tc117, tc98, tc126⟩
theorem hthree : HThree Proofs.Try.prog id := ⟨⟨hlook, tc28⟩, tc15, tc29, tc49, tc50, tc27, tc7, ⟨ren23 45, lays23, rfl⟩⟩
end Go.Clap
