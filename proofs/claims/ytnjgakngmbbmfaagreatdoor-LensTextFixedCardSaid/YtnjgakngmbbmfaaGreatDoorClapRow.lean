/- The checks of the small code against the loaded functions. -/
import Derived.Test.YtnjgakngmbbmfaaGreatDoorClapSig
import Derived.ProofKit
set_option linter.unusedVariables false
set_option linter.unusedSimpArgs false
namespace Go.Clap
open Go.ChangeShapes Go.WideShapes Go.ChangeAt Go.RowKit
variable {P : Program} {fid : Nat → FuncId}
theorem mem_none (W : World) : Mem SS fid W (fun b => b < W.heap.size) (fun _ => .dead) (entOf ([] : List (Id × Option (Ent TT)))) where
 live id e he := by simp [entOf] at he
 gone _ _ := rfl
 inj i j b n s n' s' hi _ := by cases hi
 excl id e b n s he _ _ := by simp [entOf] at he
 okl b hb := hb
theorem calls_of_spec {f : Nat} {args : List (D TT)} (h : Spec SS P fid f args [] fun d _ => d = .c (.bool true)) {W : World} {vals : Array Value} (hl : vals.size = args.length)
 (hr : ∀ (i : Nat) v d, vals[i]? = some v → args[i]? = some d → DRel SS fid W (fun b => b < W.heap.size) (fun _ => .dead) v d) (hG : ∀ b ∈ SS.glob, ∃ arr t fr, W.heap[b]? = some (.cells arr t fr) ∧ SS.gok b arr) :
 Calls P (fid f) vals W fun e W' => e = .returned (.bool true) ∧ Below W.heap.size W W' := by
 refine (h.2 W vals _ _ hl hr (mem_none W) fun b hb => ⟨by obtain ⟨_, _, _, h, _⟩ := hG b hb; exact (Array.getElem?_eq_some_iff.1 h).1, (fun _ _ _ h => by cases h), hG b hb⟩).mono fun e W' ⟨v, r, loc', ok', ρ', he, hR, hd, _, _, _, _, _, hos, ht, ho, hsz, hb⟩ => ?_
 subst hR
 have hv : v = .bool true := hd
 subst hv
 exact ⟨he, ⟨hos, ht, ho, hsz, fun i hi => hb i hi fun _ _ _ h => by cases h⟩⟩
end Go.Clap
