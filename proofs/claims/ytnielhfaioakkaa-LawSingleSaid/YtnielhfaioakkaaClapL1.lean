/- The makers' patterns: what Check, Least and Includes answer, whatever the fuel from 300 on. -/
import Derived.Test.YtnielhfaioakkaaClapK3
import Derived.Test.YtnielhfaioakkaaClapFn
namespace Go.Clap
def p0 : ByteArray := ⟨#[46, 42]⟩
def p1 : ByteArray := ⟨#[91, 97, 45, 99, 93, 42]⟩
def p2 : ByteArray := ⟨#[40, 91, 97, 45, 99, 93, 42, 41, 45, 40, 91, 48, 45, 57, 93, 42, 41]⟩
def p3 : ByteArray := ⟨#[91, 48, 45, 57, 93]⟩
def p4 : ByteArray := ⟨#[97, 124, 98, 124, 99]⟩
def p5 : ByteArray := ⟨#[91, 97, 45, 101, 93]⟩
def isS {α : Type} [DecidableEq α] (x : Option α) (a : α) : Bool := match x with | some y => decide (y = a) | none => false
theorem isS_eq {α : Type} [DecidableEq α] {x : Option α} {a : α} (h : isS x a = true) : x = some a := by
  cases x with
  | none => cases h
  | some y => exact congrArg some (of_decide_eq_true h)
/-- What Includes says first. -/
def isF (x : Option (Bool × ByteArray × Int)) : Bool := match x with | some (false, _, 0) => true | _ => false
theorem isF_eq {x : Option (Bool × ByteArray × Int)} (h : isF x = true) : ∃ w, x = some (false, w, 0) := by
  unfold isF at h
  split at h
  · exact ⟨_, rfl⟩
  · cases h
theorem chk_p0 (n : Nat) : f160_Check (n + 300) p0 = some 0 := isS_eq (by kernel_rfl)
theorem chk_p1 (n : Nat) : f160_Check (n + 300) p1 = some 0 := isS_eq (by kernel_rfl)
theorem chk_p2 (n : Nat) : f160_Check (n + 300) p2 = some 0 := isS_eq (by kernel_rfl)
theorem chk_p3 (n : Nat) : f160_Check (n + 300) p3 = some 0 := isS_eq (by kernel_rfl)
theorem chk_p4 (n : Nat) : f160_Check (n + 300) p4 = some 0 := isS_eq (by kernel_rfl)
theorem chk_p5 (n : Nat) : f160_Check (n + 300) p5 = some 0 := isS_eq (by kernel_rfl)
theorem lea_p0 (n : Nat) : f67_Least (n + 300) p0 = some (⟨#[]⟩, 0) := isS_eq (by kernel_rfl)
theorem inc_p0 (n : Nat) : ∃ w, f68_Includes (n + 300) p0 ⟨#[]⟩ = some (false, w, 0) := isF_eq (by kernel_rfl)
theorem lea_p1 (n : Nat) : f67_Least (n + 300) p1 = some (⟨#[]⟩, 0) := isS_eq (by kernel_rfl)
theorem inc_p1 (n : Nat) : ∃ w, f68_Includes (n + 300) p1 ⟨#[]⟩ = some (false, w, 0) := isF_eq (by kernel_rfl)
theorem lea_p2 (n : Nat) : f67_Least (n + 300) p2 = some (⟨#[45]⟩, 0) := isS_eq (by kernel_rfl)
theorem inc_p2 (n : Nat) : ∃ w, f68_Includes (n + 300) p2 ⟨#[45]⟩ = some (false, w, 0) := isF_eq (by kernel_rfl)
theorem lea_p3 (n : Nat) : f67_Least (n + 300) p3 = some (⟨#[48]⟩, 0) := isS_eq (by kernel_rfl)
theorem inc_p3 (n : Nat) : ∃ w, f68_Includes (n + 300) p3 ⟨#[48]⟩ = some (false, w, 0) := isF_eq (by kernel_rfl)
theorem lea_p4 (n : Nat) : f67_Least (n + 300) p4 = some (⟨#[97]⟩, 0) := isS_eq (by kernel_rfl)
theorem inc_p4 (n : Nat) : ∃ w, f68_Includes (n + 300) p4 ⟨#[97]⟩ = some (false, w, 0) := isF_eq (by kernel_rfl)
end Go.Clap
