/- The law DictExtends: for every list of numbers and every two numbers the call returns true, and each argument reads behind the call as it read before. No condition. -/
import Derived.Test.YtnielhfaioakkaaGreatRows
import Derived.Test.YtnielhfaioakkaaGreatClapRow
import Derived.Test.YtnielhfaioakkaaGreatClapX8
namespace Go.Proofs.YtnielhfaioakkaaGreat
open Go.ChangeShapes Go.WideShapes Go.ChangeAt Go.RowKit Go.Clap

theorem own : ownKnob Tryz.prog.godebug = none := by kernel_rfl
theorem laidOut : laidOutB Tryz.prog = true := by kernel_rfl
theorem cells3 : Tryz.prog.cellsOf 3 = 1 := by kernel_rfl

set_option maxRecDepth 100000 in
theorem extends_lifted (os : Os) (started : os.Started) (H : Type) (enc : TypeId × Value → H) :
    ReturnsInHanded {} Tryz.checked os 4 .any (Rows.dictExtendsSpec.pre6 enc Tryz.prog Tryz.f4 Rows.dictExtendsRow.domain false) (Rows.dictExtendsSpec.post enc Tryz.prog Tryz.f4 false true false false) := by
  refine returnsInHanded_of_change (C := Tryz.checked) own started (by kernel_rfl) Tryz.func4
    (ChangeSpec.witness6 (enc := enc) (C := Tryz.checked) false ⟨#[], #[.slice none 0 0, .int .i64 0, .int .i64 0], []⟩ 8 (by kernel_rfl) (by kernel_rfl) (by kernel_rfl) (by kernel_rfl)) ?_
  intro W base args ds gs before hval0 hW _ _
  have hval : ∀ (j : Nat) t v, Tryz.f4.params[j]? = some t → args[j]? = some v → Value.okWide Tryz.prog W .any base t v := hval0
  have hW' := hW
  obtain ⟨p, q, hA0, hV, rfl, _, _⟩ := hW
  have hA : DataW.TrodAll enc Tryz.prog W 0 (fun _ => true) true Tryz.f4.params.toList args.toList ds p := hA0
  rw [Tryz.params4] at hA hval
  obtain ⟨v0, v1, v2, d0, d1, d2, p0, p1, p2, rfl, rfl, rfl, h0, h1, h2⟩ := trodAll_three hA
  obtain ⟨rfl, rfl⟩ := trodVars_none hV
  obtain ⟨a0, len0, cap0, rfl⟩ := okWide_slice Tryz.underlying22 (hval 0 22 v0 rfl rfl)
  obtain ⟨n, rfl, rfl, rfl, hw⟩ := open_int Tryz.underlying3 (hval 1 3 v1 rfl rfl) h1
  obtain ⟨k, rfl, rfl, rfl, hw2⟩ := open_int Tryz.underlying3 (hval 2 3 v2 rfl rfl) h2
  clear hA0 hval0
  simp only [List.append_nil] at hW'
  have hlt : ∀ x ∈ p0, x.block < W.heap.size := fun x hx => by simpa using hW'.lt x hx
  obtain ⟨xs, hx⟩ := open_list (fid := fidZ) Tryz.underlying22 Tryz.underlying3 cells3 h0
  refine (calls_of_spec (fid := fidZ) (g304 hext xs n k _ rfl) (vals := #[.slice a0 len0 cap0, .int .i64 n, .int .i64 k]) rfl (fun i v d hv hd => ?_)).mono fun e W' ⟨he, hb⟩ => ?_
  · match i, hv, hd with
    | 0, hv, hd => simp at hv hd; subst hv; subst hd; exact hx
    | 1, hv, hd => simp at hv hd; subst hv; subst hd; rfl
    | 2, hv, hd => simp at hv hd; subst hv; subst hd; rfl
    | i + 3, hv, hd => simp at hd
  subst he
  have harg0 := Below.trod laidOut (by kernel_rfl) (of_decide_eq_true (by kernel_rfl)) h0 hb hlt
  exact ⟨_, rfl, _, _, _, [], _, [], hW', trodAll_mk1 (shut_bool Tryz.underlying4 _), trodAll_mk3 harg0 (shut_int Tryz.underlying3 hw) (shut_int Tryz.underlying3 hw2), rfl, hb.frame _, fun h => by cases h⟩

theorem extends_holds : Rows.DictExtendsSaid :=
  OpenClaim.holds_of_wide 4 Tryz.f4 rfl rfl rfl rfl rfl rfl rfl ⟨rfl, rfl, rfl, rfl, rfl⟩ rfl rfl rfl rfl rfl (by kernel_rfl) Tryz.func4 (by kernel_rfl)
    (of_decide_eq_true (by kernel_rfl)) (by unfold Func.isWrapper; first | (rw [if_pos (by decide +kernel)]; kernel_rfl) | (rw [if_neg (by decide +kernel)]; exact ⟨rfl, rfl⟩))
    (fun os started H enc _ => extends_lifted os started H enc)

end Go.Proofs.YtnielhfaioakkaaGreat
