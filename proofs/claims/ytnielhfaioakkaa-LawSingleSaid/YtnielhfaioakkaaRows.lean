/-
  No cell of these rows narrows 'for every input' (looked for: loops, veiled, ifaces, maps, wideKeys, modest, calm, conditions, laid).
  DERIVED. THE GIVEN ROWS OF THIS SEAT. 5 by the template 'for every input the law returns true; each argument reads behind the call as it read before'; 0 by the template 'total and deterministic' (their statements: YtnielhfaioakkaaTotals.lean).
  GIVEN WITH THE SEED: the statements are not yours to turn. If you find one false, say at which input.
  Laid BY PROGRAM, IN A SANDBOX (cutbox-rows.mjs): the forced cells as the released guide's own fill.sh prints them over the translation 03890f02016fd186… (all of the seat's roots in one cut). By AI agents, Wed Nov 11 2026. No macro, syntax, notation, axiom, sorry.
-/
import Derived.Test.YtnielhfaioakkaaChecked
import GoSem.Claim
import GoSem.ClaimJoined
import GoSem.ClaimMapViews
import Derived.JoinedTies
import Derived.KernelRfl
namespace Go.Proofs.Ytnielhfaioakkaa
/- THE CELL 'sum', in the pinned program and in every row, IS THE sha256 OF THE DUMP (.gsa) THAT YtnielhfaioakkaaProg.lean LOADS. Nothing in Lean hashes anything: it is a label: what it is worth is what the hold of that sum in a sandbox is worth. -/
noncomputable def Try.pinned : Pinned := { name := "ytnielhfaioakkaa", sum := "03890f02016fd186982649b965b66def83802f48a5ccb5b874f0304447161e59", checked := Try.checked }
namespace Rows
def none {H : Type} : Left H := { results := [], args := [] }

/-- 'clapkeep3.AlignMetric': WHATEVER THE INPUT: true; the input reads as it did. -/
def alignMetricSpec : ChangeSpec := { name := "alignMetric", fn := fun _ => fun
  | [d1, d2] => { results := [.lit (.bool true)], args := [d1, d2] }
  | _ => none }
def alignMetricRow : OpenClaim := { program := "ytnielhfaioakkaa", sum := "03890f02016fd186982649b965b66def83802f48a5ccb5b874f0304447161e59", func := "clapperbridge/clapkeep3.AlignMetric", spec := "alignMetric", inPlace := ["internal/bytealg.abigen_runtime_cmpstring"], unfollowed := true, recurses := true, plainKeys := false, apart := false }
def AlignMetricSaid : Prop := alignMetricRow.holds Try.pinned (OpenSpec.ofChange alignMetricSpec)

/-- ITS FALSE NEIGHBOUR: 'it returns false'. Refute it at one input. -/
def alignMetricWrong : ChangeSpec := { name := "alignMetric", fn := fun _ => fun
  | [d1, d2] => { results := [.lit (.bool false)], args := [d1, d2] }
  | _ => none }
def AlignMetricWrongFalsely : Prop := alignMetricRow.holds Try.pinned (OpenSpec.ofChange alignMetricWrong)

/-- 'clapkeep3.AlignLeast': WHATEVER THE INPUT: true; the input reads as it did. -/
def alignLeastSpec : ChangeSpec := { name := "alignLeast", fn := fun _ => fun
  | [d1, d2, d3] => { results := [.lit (.bool true)], args := [d1, d2, d3] }
  | _ => none }
def alignLeastRow : OpenClaim := { program := "ytnielhfaioakkaa", sum := "03890f02016fd186982649b965b66def83802f48a5ccb5b874f0304447161e59", func := "clapperbridge/clapkeep3.AlignLeast", spec := "alignLeast", inPlace := ["internal/bytealg.abigen_runtime_cmpstring"], unfollowed := true, recurses := true, plainKeys := false, apart := false }
def AlignLeastSaid : Prop := alignLeastRow.holds Try.pinned (OpenSpec.ofChange alignLeastSpec)

/-- ITS FALSE NEIGHBOUR: 'it returns false'. Refute it at one input. -/
def alignLeastWrong : ChangeSpec := { name := "alignLeast", fn := fun _ => fun
  | [d1, d2, d3] => { results := [.lit (.bool false)], args := [d1, d2, d3] }
  | _ => none }
def AlignLeastWrongFalsely : Prop := alignLeastRow.holds Try.pinned (OpenSpec.ofChange alignLeastWrong)

/-- 'clapkeep3.AlignKept': WHATEVER THE INPUT: true; the input reads as it did. -/
def alignKeptSpec : ChangeSpec := { name := "alignKept", fn := fun _ => fun
  | [d1, d2] => { results := [.lit (.bool true)], args := [d1, d2] }
  | _ => none }
def alignKeptRow : OpenClaim := { program := "ytnielhfaioakkaa", sum := "03890f02016fd186982649b965b66def83802f48a5ccb5b874f0304447161e59", func := "clapperbridge/clapkeep3.AlignKept", spec := "alignKept", inPlace := ["internal/bytealg.abigen_runtime_cmpstring"], unfollowed := true, recurses := true, plainKeys := false, apart := false }
def AlignKeptSaid : Prop := alignKeptRow.holds Try.pinned (OpenSpec.ofChange alignKeptSpec)

/-- ITS FALSE NEIGHBOUR: 'it returns false'. Refute it at one input. -/
def alignKeptWrong : ChangeSpec := { name := "alignKept", fn := fun _ => fun
  | [d1, d2] => { results := [.lit (.bool false)], args := [d1, d2] }
  | _ => none }
def AlignKeptWrongFalsely : Prop := alignKeptRow.holds Try.pinned (OpenSpec.ofChange alignKeptWrong)

/-- 'clapkeep3.LawSingle': WHATEVER THE INPUT: true; the input reads as it did. -/
def lawSingleSpec : ChangeSpec := { name := "lawSingle", fn := fun _ => fun
  | [d1, d2, d3, d4] => { results := [.lit (.bool true)], args := [d1, d2, d3, d4] }
  | _ => none }
def lawSingleRow : OpenClaim := { program := "ytnielhfaioakkaa", sum := "03890f02016fd186982649b965b66def83802f48a5ccb5b874f0304447161e59", func := "clapperbridge/clapkeep3.LawSingle", spec := "lawSingle", inPlace := ["internal/bytealg.IndexByteString", "internal/abi.NoEscape", "internal/bytealg.abigen_runtime_cmpstring"], unfollowed := true, recurses := true, plainKeys := false, apart := false }
def LawSingleSaid : Prop := lawSingleRow.holds Try.pinned (OpenSpec.ofChange lawSingleSpec)

/-- ITS FALSE NEIGHBOUR: 'it returns false'. Refute it at one input. -/
def lawSingleWrong : ChangeSpec := { name := "lawSingle", fn := fun _ => fun
  | [d1, d2, d3, d4] => { results := [.lit (.bool false)], args := [d1, d2, d3, d4] }
  | _ => none }
def LawSingleWrongFalsely : Prop := lawSingleRow.holds Try.pinned (OpenSpec.ofChange lawSingleWrong)

/-- 'clapkeep3.DictThree': WHATEVER THE INPUT: true; the input reads as it did. -/
def dictThreeSpec : ChangeSpec := { name := "dictThree", fn := fun _ => fun
  | [d1, d2, d3, d4] => { results := [.lit (.bool true)], args := [d1, d2, d3, d4] }
  | _ => none }
def dictThreeRow : OpenClaim := { program := "ytnielhfaioakkaa", sum := "03890f02016fd186982649b965b66def83802f48a5ccb5b874f0304447161e59", func := "clapperbridge/clapkeep3.DictThree", spec := "dictThree", inPlace := ["internal/bytealg.abigen_runtime_cmpstring", "internal/bytealg.IndexByteString"], unfollowed := true, recurses := true, plainKeys := false, apart := false }
def DictThreeSaid : Prop := dictThreeRow.holds Try.pinned (OpenSpec.ofChange dictThreeSpec)

/-- ITS FALSE NEIGHBOUR: 'it returns false'. Refute it at one input. -/
def dictThreeWrong : ChangeSpec := { name := "dictThree", fn := fun _ => fun
  | [d1, d2, d3, d4] => { results := [.lit (.bool false)], args := [d1, d2, d3, d4] }
  | _ => none }
def DictThreeWrongFalsely : Prop := dictThreeRow.holds Try.pinned (OpenSpec.ofChange dictThreeWrong)

/- THE SECOND FORM. 'bulk': how many values and letters a reading holds, each counted each time it is reached (what is shared counts as often as it is met; a slice's spare places count too). A statement '..UptoSaid' is the law's where the arguments, and the package variables that the reading takes, are together of bulk at most 1048576: NARROWER than '..Said'. Prove '..Said' where nothing that the law and all that it calls make is longer than what came in: it says more and counts as full. Else prove '..UptoSaid'. A law counts once. -/
mutual
def uptoBulk {H : Type} : DataW H → Nat
  | .lit (.string bytes) => bytes.length + 1
  | .lit _ => 1
  | .nil => 1
  | .ptr d => uptoBulk d + 1
  | .slice elems spare => uptoBulkAll elems + uptoBulkAll spare + 1
  | .agg parts => uptoBulkAll parts + 1
  | .iface _ d => uptoBulk d + 1
  | .map entries => uptoBulkEntries entries + 1
  | .held _ => 1
def uptoBulkAll {H : Type} : List (DataW H) → Nat
  | [] => 0
  | d :: r => uptoBulk d + uptoBulkAll r
def uptoBulkEntries {H : Type} : List (Lit × DataW H) → Nat
  | [] => 0
  | x :: r => uptoBulkEntry x + uptoBulkEntries r
def uptoBulkEntry {H : Type} : Lit × DataW H → Nat
  | (.string bytes, d) => bytes.length + uptoBulk d + 1
  | (_, d) => uptoBulk d + 1
 end
def uptoSmall : (H : Type) → List (DataW H) → Bool := fun _ ds => decide (uptoBulkAll ds ≤ 1048576)
def OpenSpec.upto (s : _root_.Go.ChangeSpec) : _root_.Go.OpenSpec := { _root_.Go.OpenSpec.ofChange s with cond := some uptoSmall }

/-- 'clapkeep3.AlignMetric', WHERE WHAT IT READS IS OF BULK AT MOST 1048576: true; the input reads as it did. -/
def alignMetricUptoRow : OpenClaim := { program := "ytnielhfaioakkaa", sum := "03890f02016fd186982649b965b66def83802f48a5ccb5b874f0304447161e59", func := "clapperbridge/clapkeep3.AlignMetric", spec := "alignMetric", inPlace := ["internal/bytealg.abigen_runtime_cmpstring"], unfollowed := true, recurses := true, plainKeys := false, apart := false, narrowed := true }
def AlignMetricUptoSaid : Prop := alignMetricUptoRow.holds Try.pinned (OpenSpec.upto alignMetricSpec)

/-- 'clapkeep3.AlignLeast', WHERE WHAT IT READS IS OF BULK AT MOST 1048576: true; the input reads as it did. -/
def alignLeastUptoRow : OpenClaim := { program := "ytnielhfaioakkaa", sum := "03890f02016fd186982649b965b66def83802f48a5ccb5b874f0304447161e59", func := "clapperbridge/clapkeep3.AlignLeast", spec := "alignLeast", inPlace := ["internal/bytealg.abigen_runtime_cmpstring"], unfollowed := true, recurses := true, plainKeys := false, apart := false, narrowed := true }
def AlignLeastUptoSaid : Prop := alignLeastUptoRow.holds Try.pinned (OpenSpec.upto alignLeastSpec)

/-- 'clapkeep3.AlignKept', WHERE WHAT IT READS IS OF BULK AT MOST 1048576: true; the input reads as it did. -/
def alignKeptUptoRow : OpenClaim := { program := "ytnielhfaioakkaa", sum := "03890f02016fd186982649b965b66def83802f48a5ccb5b874f0304447161e59", func := "clapperbridge/clapkeep3.AlignKept", spec := "alignKept", inPlace := ["internal/bytealg.abigen_runtime_cmpstring"], unfollowed := true, recurses := true, plainKeys := false, apart := false, narrowed := true }
def AlignKeptUptoSaid : Prop := alignKeptUptoRow.holds Try.pinned (OpenSpec.upto alignKeptSpec)

/-- 'clapkeep3.LawSingle', WHERE WHAT IT READS IS OF BULK AT MOST 1048576: true; the input reads as it did. -/
def lawSingleUptoRow : OpenClaim := { program := "ytnielhfaioakkaa", sum := "03890f02016fd186982649b965b66def83802f48a5ccb5b874f0304447161e59", func := "clapperbridge/clapkeep3.LawSingle", spec := "lawSingle", inPlace := ["internal/bytealg.IndexByteString", "internal/abi.NoEscape", "internal/bytealg.abigen_runtime_cmpstring"], unfollowed := true, recurses := true, plainKeys := false, apart := false, narrowed := true }
def LawSingleUptoSaid : Prop := lawSingleUptoRow.holds Try.pinned (OpenSpec.upto lawSingleSpec)

/-- 'clapkeep3.DictThree', WHERE WHAT IT READS IS OF BULK AT MOST 1048576: true; the input reads as it did. -/
def dictThreeUptoRow : OpenClaim := { program := "ytnielhfaioakkaa", sum := "03890f02016fd186982649b965b66def83802f48a5ccb5b874f0304447161e59", func := "clapperbridge/clapkeep3.DictThree", spec := "dictThree", inPlace := ["internal/bytealg.abigen_runtime_cmpstring", "internal/bytealg.IndexByteString"], unfollowed := true, recurses := true, plainKeys := false, apart := false, narrowed := true }
def DictThreeUptoSaid : Prop := dictThreeUptoRow.holds Try.pinned (OpenSpec.upto dictThreeSpec)

end Rows
end Go.Proofs.Ytnielhfaioakkaa
