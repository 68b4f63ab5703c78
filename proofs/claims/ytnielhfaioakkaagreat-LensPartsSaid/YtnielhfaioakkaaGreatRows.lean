/-
  No cell of these rows narrows 'for every input' (looked for: loops, veiled, ifaces, maps, wideKeys, modest, calm, conditions, laid).
  DERIVED. THE GIVEN ROWS OF THIS SEAT. 4 by the template 'for every input the law returns true; each argument reads behind the call as it read before'; 0 by the template 'total and deterministic' (their statements: YtnielhfaioakkaaGreatTotals.lean).
  GIVEN WITH THE SEED: the statements are not yours to turn. If you find one false, say at which input.
  Laid BY PROGRAM, IN A SANDBOX (cutbox-rows.mjs): the forced cells as the released guide's own fill.sh prints them over the translation 2352a621af228caa… (all of the seat's roots in one cut). By AI agents, Wed Nov 11 2026. No macro, syntax, notation, axiom, sorry.
-/
import Derived.Test.YtnielhfaioakkaaGreatChecked
import GoSem.Claim
import GoSem.ClaimJoined
import GoSem.ClaimMapViews
import Derived.JoinedTies
import Derived.KernelRfl
namespace Go.Proofs.YtnielhfaioakkaaGreat
/- THE CELL 'sum', in the pinned program and in every row, IS THE sha256 OF THE DUMP (.gsa) THAT YtnielhfaioakkaaGreatProg.lean LOADS. Nothing in Lean hashes anything: it is a label: what it is worth is what the hold of that sum in a sandbox is worth. -/
noncomputable def Tryz.pinned : Pinned := { name := "ytnielhfaioakkaagreat", sum := "2352a621af228caa56ebd1aab01133c51900cddcf7343943bfb5d8603a97c362", checked := Tryz.checked }
namespace Rows
def none {H : Type} : Left H := { results := [], args := [] }

/-- 'clapkeep3.DictInverse': WHATEVER THE INPUT: true; the input reads as it did. -/
def dictInverseSpec : ChangeSpec := { name := "dictInverse", fn := fun _ => fun
  | [d1, d2] => { results := [.lit (.bool true)], args := [d1, d2] }
  | _ => none }
def dictInverseRow : OpenClaim := { program := "ytnielhfaioakkaagreat", sum := "2352a621af228caa56ebd1aab01133c51900cddcf7343943bfb5d8603a97c362", func := "clapperbridge/clapkeep3.DictInverse", spec := "dictInverse", inPlace := ["internal/bytealg.abigen_runtime_cmpstring", "internal/bytealg.IndexByteString"], unfollowed := true, recurses := true, plainKeys := false, apart := false }
def DictInverseSaid : Prop := dictInverseRow.holds Tryz.pinned (OpenSpec.ofChange dictInverseSpec)

/-- ITS FALSE NEIGHBOUR: 'it returns false'. Refute it at one input. -/
def dictInverseWrong : ChangeSpec := { name := "dictInverse", fn := fun _ => fun
  | [d1, d2] => { results := [.lit (.bool false)], args := [d1, d2] }
  | _ => none }
def DictInverseWrongFalsely : Prop := dictInverseRow.holds Tryz.pinned (OpenSpec.ofChange dictInverseWrong)

/-- 'clapkeep3.DictExtends': WHATEVER THE INPUT: true; the input reads as it did. -/
def dictExtendsSpec : ChangeSpec := { name := "dictExtends", fn := fun _ => fun
  | [d1, d2, d3] => { results := [.lit (.bool true)], args := [d1, d2, d3] }
  | _ => none }
def dictExtendsRow : OpenClaim := { program := "ytnielhfaioakkaagreat", sum := "2352a621af228caa56ebd1aab01133c51900cddcf7343943bfb5d8603a97c362", func := "clapperbridge/clapkeep3.DictExtends", spec := "dictExtends", inPlace := ["internal/bytealg.abigen_runtime_cmpstring", "internal/bytealg.IndexByteString"], unfollowed := true, recurses := true, plainKeys := false, apart := false }
def DictExtendsSaid : Prop := dictExtendsRow.holds Tryz.pinned (OpenSpec.ofChange dictExtendsSpec)

/-- ITS FALSE NEIGHBOUR: 'it returns false'. Refute it at one input. -/
def dictExtendsWrong : ChangeSpec := { name := "dictExtends", fn := fun _ => fun
  | [d1, d2, d3] => { results := [.lit (.bool false)], args := [d1, d2, d3] }
  | _ => none }
def DictExtendsWrongFalsely : Prop := dictExtendsRow.holds Tryz.pinned (OpenSpec.ofChange dictExtendsWrong)

/-- 'clapkeep3.LensParts': WHATEVER THE INPUT: true; the input reads as it did. -/
def lensPartsSpec : ChangeSpec := { name := "lensParts", fn := fun _ => fun
  | [d1, d2, d3, d4] => { results := [.lit (.bool true)], args := [d1, d2, d3, d4] }
  | _ => none }
def lensPartsRow : OpenClaim := { program := "ytnielhfaioakkaagreat", sum := "2352a621af228caa56ebd1aab01133c51900cddcf7343943bfb5d8603a97c362", func := "clapperbridge/clapkeep3.LensParts", spec := "lensParts", inPlace := ["slices.overlaps[clapperbridge/api.Part]", "internal/bytealg.abigen_runtime_cmpstring", "internal/bytealg.IndexByteString"], unfollowed := true, recurses := true, plainKeys := false, apart := false }
def LensPartsSaid : Prop := lensPartsRow.holds Tryz.pinned (OpenSpec.ofChange lensPartsSpec)

/-- ITS FALSE NEIGHBOUR: 'it returns false'. Refute it at one input. -/
def lensPartsWrong : ChangeSpec := { name := "lensParts", fn := fun _ => fun
  | [d1, d2, d3, d4] => { results := [.lit (.bool false)], args := [d1, d2, d3, d4] }
  | _ => none }
def LensPartsWrongFalsely : Prop := lensPartsRow.holds Tryz.pinned (OpenSpec.ofChange lensPartsWrong)

/-- 'clapkeep3.DictCycles': WHATEVER THE INPUT: true; the input reads as it did. -/
def dictCyclesSpec : ChangeSpec := { name := "dictCycles", fn := fun _ => fun
  | [d1, d2] => { results := [.lit (.bool true)], args := [d1, d2] }
  | _ => none }
def dictCyclesRow : OpenClaim := { program := "ytnielhfaioakkaagreat", sum := "2352a621af228caa56ebd1aab01133c51900cddcf7343943bfb5d8603a97c362", func := "clapperbridge/clapkeep3.DictCycles", spec := "dictCycles", inPlace := ["internal/bytealg.abigen_runtime_cmpstring", "internal/bytealg.IndexByteString"], unfollowed := true, recurses := true, plainKeys := false, apart := false }
def DictCyclesSaid : Prop := dictCyclesRow.holds Tryz.pinned (OpenSpec.ofChange dictCyclesSpec)

/-- ITS FALSE NEIGHBOUR: 'it returns false'. Refute it at one input. -/
def dictCyclesWrong : ChangeSpec := { name := "dictCycles", fn := fun _ => fun
  | [d1, d2] => { results := [.lit (.bool false)], args := [d1, d2] }
  | _ => none }
def DictCyclesWrongFalsely : Prop := dictCyclesRow.holds Tryz.pinned (OpenSpec.ofChange dictCyclesWrong)

/- THE SECOND FORM. 'bulk': how many values and letters a reading holds, each counted each time it is reached (what is shared counts as often as it is met; a slice's spare places count too). A statement '..UptoSaid' is the law's where the arguments, and the package variables that the reading takes, are together of bulk at most 1048576: NARROWER than '..Said'. Prove '..Said' where nothing that the law and all that it calls make is longer than what came in: it says more and counts as full. Else prove '..UptoSaid'. A law counts once. -/
mutual
def uptoBulk {H : Type} : DataW H → Nat
  | .lit (.string bytes) => bytes.length + 1
  | .lit _ => 1
  | .nil => 1
  | .ptr d => uptoBulk d + 1
  | .slice elems spare => uptoBulkAll elems + uptoBulkAll spare + 1
  | .agg parts => uptoBulkAll parts + 1
  | .iface _ d => uptoBulk d + 1
  | .map entries => uptoBulkEntries entries + 1
  | .held _ => 1
def uptoBulkAll {H : Type} : List (DataW H) → Nat
  | [] => 0
  | d :: r => uptoBulk d + uptoBulkAll r
def uptoBulkEntries {H : Type} : List (Lit × DataW H) → Nat
  | [] => 0
  | x :: r => uptoBulkEntry x + uptoBulkEntries r
def uptoBulkEntry {H : Type} : Lit × DataW H → Nat
  | (.string bytes, d) => bytes.length + uptoBulk d + 1
  | (_, d) => uptoBulk d + 1
 end
def uptoSmall : (H : Type) → List (DataW H) → Bool := fun _ ds => decide (uptoBulkAll ds ≤ 1048576)
def OpenSpec.upto (s : _root_.Go.ChangeSpec) : _root_.Go.OpenSpec := { _root_.Go.OpenSpec.ofChange s with cond := some uptoSmall }

/-- 'clapkeep3.DictInverse', WHERE WHAT IT READS IS OF BULK AT MOST 1048576: true; the input reads as it did. -/
def dictInverseUptoRow : OpenClaim := { program := "ytnielhfaioakkaagreat", sum := "2352a621af228caa56ebd1aab01133c51900cddcf7343943bfb5d8603a97c362", func := "clapperbridge/clapkeep3.DictInverse", spec := "dictInverse", inPlace := ["internal/bytealg.abigen_runtime_cmpstring", "internal/bytealg.IndexByteString"], unfollowed := true, recurses := true, plainKeys := false, apart := false, narrowed := true }
def DictInverseUptoSaid : Prop := dictInverseUptoRow.holds Tryz.pinned (OpenSpec.upto dictInverseSpec)

/-- 'clapkeep3.DictExtends', WHERE WHAT IT READS IS OF BULK AT MOST 1048576: true; the input reads as it did. -/
def dictExtendsUptoRow : OpenClaim := { program := "ytnielhfaioakkaagreat", sum := "2352a621af228caa56ebd1aab01133c51900cddcf7343943bfb5d8603a97c362", func := "clapperbridge/clapkeep3.DictExtends", spec := "dictExtends", inPlace := ["internal/bytealg.abigen_runtime_cmpstring", "internal/bytealg.IndexByteString"], unfollowed := true, recurses := true, plainKeys := false, apart := false, narrowed := true }
def DictExtendsUptoSaid : Prop := dictExtendsUptoRow.holds Tryz.pinned (OpenSpec.upto dictExtendsSpec)

/-- 'clapkeep3.LensParts', WHERE WHAT IT READS IS OF BULK AT MOST 1048576: true; the input reads as it did. -/
def lensPartsUptoRow : OpenClaim := { program := "ytnielhfaioakkaagreat", sum := "2352a621af228caa56ebd1aab01133c51900cddcf7343943bfb5d8603a97c362", func := "clapperbridge/clapkeep3.LensParts", spec := "lensParts", inPlace := ["slices.overlaps[clapperbridge/api.Part]", "internal/bytealg.abigen_runtime_cmpstring", "internal/bytealg.IndexByteString"], unfollowed := true, recurses := true, plainKeys := false, apart := false, narrowed := true }
def LensPartsUptoSaid : Prop := lensPartsUptoRow.holds Tryz.pinned (OpenSpec.upto lensPartsSpec)

/-- 'clapkeep3.DictCycles', WHERE WHAT IT READS IS OF BULK AT MOST 1048576: true; the input reads as it did. -/
def dictCyclesUptoRow : OpenClaim := { program := "ytnielhfaioakkaagreat", sum := "2352a621af228caa56ebd1aab01133c51900cddcf7343943bfb5d8603a97c362", func := "clapperbridge/clapkeep3.DictCycles", spec := "dictCycles", inPlace := ["internal/bytealg.abigen_runtime_cmpstring", "internal/bytealg.IndexByteString"], unfollowed := true, recurses := true, plainKeys := false, apart := false, narrowed := true }
def DictCyclesUptoSaid : Prop := dictCyclesUptoRow.holds Tryz.pinned (OpenSpec.upto dictCyclesSpec)

end Rows
end Go.Proofs.YtnielhfaioakkaaGreat
