/- The law DictThree: for every three lists of numbers and every number the call returns true, and each argument reads behind the call as it read before. No condition. -/
import Derived.Test.YtnielhfaioakkaaRows
import Derived.Test.YtnielhfaioakkaaClapRow
import Derived.Test.YtnielhfaioakkaaClapX5
namespace Go.Proofs.Ytnielhfaioakkaa
open Go.ChangeShapes Go.WideShapes Go.ChangeAt Go.RowKit Go.Clap

theorem own : ownKnob Try.prog.godebug = none := by kernel_rfl
theorem laidOut : laidOutB Try.prog = true := by kernel_rfl
theorem cells3 : Try.prog.cellsOf 3 = 1 := by kernel_rfl

set_option maxRecDepth 100000 in
theorem three_lifted (os : Os) (started : os.Started) (H : Type) (enc : TypeId × Value → H) :
    ReturnsInHanded {} Try.checked os 7 .any (Rows.dictThreeSpec.pre6 enc Try.prog Try.f7 Rows.dictThreeRow.domain false) (Rows.dictThreeSpec.post enc Try.prog Try.f7 false true false false) := by
  refine returnsInHanded_of_change (C := Try.checked) own started (by kernel_rfl) Try.func7
    (ChangeSpec.witness6 (enc := enc) (C := Try.checked) false ⟨#[], #[.slice none 0 0, .slice none 0 0, .slice none 0 0, .int .i64 0], []⟩ 8 (by kernel_rfl) (by kernel_rfl) (by kernel_rfl) (by kernel_rfl)) ?_
  intro W base args ds gs before hval0 hW _ _
  have hval : ∀ (j : Nat) t v, Try.f7.params[j]? = some t → args[j]? = some v → Value.okWide Try.prog W .any base t v := hval0
  have hW' := hW
  obtain ⟨p, q, hA0, hV, rfl, _, _⟩ := hW
  have hA : DataW.TrodAll enc Try.prog W 0 (fun _ => true) true Try.f7.params.toList args.toList ds p := hA0
  rw [Try.params7] at hA hval
  obtain ⟨v0, v1, v2, v3, d0, d1, d2, d3, p0, p1, p2, p3, rfl, rfl, rfl, h0, h1, h2, h3⟩ := trodAll_four hA
  obtain ⟨rfl, rfl⟩ := trodVars_none hV
  obtain ⟨a0, len0, cap0, rfl⟩ := okWide_slice Try.underlying22 (hval 0 22 v0 rfl rfl)
  obtain ⟨a1, len1, cap1, rfl⟩ := okWide_slice Try.underlying22 (hval 1 22 v1 rfl rfl)
  obtain ⟨a2, len2, cap2, rfl⟩ := okWide_slice Try.underlying22 (hval 2 22 v2 rfl rfl)
  obtain ⟨n, rfl, rfl, rfl, hw⟩ := open_int Try.underlying3 (hval 3 3 v3 rfl rfl) h3
  clear hA0 hval0
  simp only [List.append_nil] at hW'
  have hlt : ∀ x ∈ p0 ++ p1 ++ p2, x.block < W.heap.size := fun x hx => by simpa using hW'.lt x hx
  obtain ⟨xs, hx⟩ := open_list (fid := id) Try.underlying22 Try.underlying3 cells3 h0
  obtain ⟨ys, hy⟩ := open_list (fid := id) Try.underlying22 Try.underlying3 cells3 h1
  obtain ⟨zs, hz⟩ := open_list (fid := id) Try.underlying22 Try.underlying3 cells3 h2
  refine (calls_of_spec (fid := id) (g7 hthree xs ys zs n _ rfl) (vals := #[.slice a0 len0 cap0, .slice a1 len1 cap1, .slice a2 len2 cap2, .int .i64 n]) rfl (fun i v d hv hd => ?_)).mono fun e W' ⟨he, hb⟩ => ?_
  · match i, hv, hd with
    | 0, hv, hd => simp at hv hd; subst hv; subst hd; exact hx
    | 1, hv, hd => simp at hv hd; subst hv; subst hd; exact hy
    | 2, hv, hd => simp at hv hd; subst hv; subst hd; exact hz
    | 3, hv, hd => simp at hv hd; subst hv; subst hd; rfl
    | i + 4, hv, hd => simp at hd
  subst he
  have harg0 := Below.trod laidOut (by kernel_rfl) (of_decide_eq_true (by kernel_rfl)) h0 hb (fun x hx => hlt x (List.mem_append.2 (.inl (List.mem_append.2 (.inl hx)))))
  have harg1 := Below.trod laidOut (by kernel_rfl) (of_decide_eq_true (by kernel_rfl)) h1 hb (fun x hx => hlt x (List.mem_append.2 (.inl (List.mem_append.2 (.inr hx)))))
  have harg2 := Below.trod laidOut (by kernel_rfl) (of_decide_eq_true (by kernel_rfl)) h2 hb (fun x hx => hlt x (List.mem_append.2 (.inr hx)))
  exact ⟨_, rfl, _, _, _, [], _, [], hW', trodAll_mk1 (shut_bool Try.underlying4 _), trodAll_mk4 harg0 harg1 harg2 (shut_int Try.underlying3 hw), rfl, hb.frame _, fun h => by cases h⟩

theorem three_holds : Rows.DictThreeSaid :=
  OpenClaim.holds_of_wide 7 Try.f7 rfl rfl rfl rfl rfl rfl rfl ⟨rfl, rfl, rfl, rfl, rfl⟩ rfl rfl rfl rfl rfl (by kernel_rfl) Try.func7 (by kernel_rfl)
    (of_decide_eq_true (by kernel_rfl)) (by unfold Func.isWrapper; first | (rw [if_pos (by decide +kernel)]; kernel_rfl) | (rw [if_neg (by decide +kernel)]; exact ⟨rfl, rfl⟩))
    (fun os started H enc _ => three_lifted os started H enc)

end Go.Proofs.Ytnielhfaioakkaa
