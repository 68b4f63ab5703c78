/- The law LensParts: the size, the depth and the check of a lens follow from its node and its kids: for every three lists of numbers and every number the call returns true, and each argument reads behind the call as it read before. No condition. -/
import Derived.Test.YtnielhfaioakkaaGreatRows
import Derived.Test.YtnielhfaioakkaaGreatClapRow
import Derived.Test.YtnielhfaioakkaaGreatClapQ2
import Derived.Test.YtnielhfaioakkaaGreatClapN3
namespace Go.Proofs.YtnielhfaioakkaaGreat
open Go.ChangeShapes Go.WideShapes Go.ChangeAt Go.RowKit Go.Clap
theorem own : ownKnob Tryz.prog.godebug = none := by kernel_rfl
theorem laidOut : laidOutB Tryz.prog = true := by kernel_rfl
theorem cells3 : Tryz.prog.cellsOf 3 = 1 := by kernel_rfl
set_option maxRecDepth 100000 in
theorem parts_lifted (os : Os) (started : os.Started) (H : Type) (enc : TypeId × Value → H) :
 ReturnsInHanded {} Tryz.checked os 5 .any (Rows.lensPartsSpec.pre6 enc Tryz.prog Tryz.f5 Rows.lensPartsRow.domain false) (Rows.lensPartsSpec.post enc Tryz.prog Tryz.f5 false true false false) := by
 refine returnsInHanded_of_change (C := Tryz.checked) own started (by kernel_rfl) Tryz.func5
  (ChangeSpec.witness6 (enc := enc) (C := Tryz.checked) false ⟨#[], #[.slice none 0 0, .slice none 0 0, .slice none 0 0, .int .i64 0], []⟩ 8 (by kernel_rfl) (by kernel_rfl) (by kernel_rfl) (by kernel_rfl)) ?_
 intro W base args ds gs before hval0 hW _ _
 have hval : ∀ (j : Nat) t v, Tryz.f5.params[j]? = some t → args[j]? = some v → Value.okWide Tryz.prog W .any base t v := hval0
 have hW' := hW
 obtain ⟨p, q, hA0, hV, rfl, _, _⟩ := hW
 have hA : DataW.TrodAll enc Tryz.prog W 0 (fun _ => true) true Tryz.f5.params.toList args.toList ds p := hA0
 rw [Tryz.params5] at hA hval
 obtain ⟨v0, v1, v2, v3, d0, d1, d2, d3, p0, p1, p2, p3, rfl, rfl, rfl, h0, h1, h2, h3⟩ := trodAll_four hA
 obtain ⟨rfl, rfl⟩ := trodVars_none hV
 obtain ⟨a0, len0, cap0, rfl⟩ := okWide_slice Tryz.underlying22 (hval 0 22 v0 rfl rfl)
 obtain ⟨a1, len1, cap1, rfl⟩ := okWide_slice Tryz.underlying22 (hval 1 22 v1 rfl rfl)
 obtain ⟨a2, len2, cap2, rfl⟩ := okWide_slice Tryz.underlying22 (hval 2 22 v2 rfl rfl)
 obtain ⟨x3, rfl, rfl, rfl, hw3⟩ := open_int Tryz.underlying3 (hval 3 3 v3 rfl rfl) h3
 clear hA0 hval0
 simp only [List.append_nil] at hW'
 have hlt : ∀ x ∈ p0 ++ p1 ++ p2, x.block < W.heap.size := fun x hx => by simpa using hW'.lt x hx
 obtain ⟨x0, hx0⟩ := open_list (fid := fidY) Tryz.underlying22 Tryz.underlying3 cells3 h0
 obtain ⟨x1, hx1⟩ := open_list (fid := fidY) Tryz.underlying22 Tryz.underlying3 cells3 h1
 obtain ⟨x2, hx2⟩ := open_list (fid := fidY) Tryz.underlying22 Tryz.underlying3 cells3 h2
 refine (calls_of_spec (fid := fidY) (s305 60201 x0 x1 x2 x3 (fun q => q = true) _ (by rintro _ rfl; rfl) (parts_law 60200 (Nat.le_refl _) x0 x1 x2 x3)) (vals := #[.slice a0 len0 cap0, .slice a1 len1 cap1, .slice a2 len2 cap2, .int .i64 x3]) rfl (fun i v d hv hd => ?_)).mono fun e W' ⟨he, hb⟩ => ?_
 · match i, hv, hd with
   | 0, hv, hd => simp at hv hd; subst hv; subst hd; exact hx0
   | 1, hv, hd => simp at hv hd; subst hv; subst hd; exact hx1
   | 2, hv, hd => simp at hv hd; subst hv; subst hd; exact hx2
   | 3, hv, hd => simp at hv hd; subst hv; subst hd; rfl
   | i + 4, hv, hd => simp at hd
 subst he
 have harg0 := Below.trod laidOut (by kernel_rfl) (of_decide_eq_true (by kernel_rfl)) h0 hb (fun x hx => hlt x (List.mem_append.2 (.inl (List.mem_append.2 (.inl hx)))))
 have harg1 := Below.trod laidOut (by kernel_rfl) (of_decide_eq_true (by kernel_rfl)) h1 hb (fun x hx => hlt x (List.mem_append.2 (.inl (List.mem_append.2 (.inr hx)))))
 have harg2 := Below.trod laidOut (by kernel_rfl) (of_decide_eq_true (by kernel_rfl)) h2 hb (fun x hx => hlt x (List.mem_append.2 (.inr hx)))
 exact ⟨_, rfl, _, _, _, [], _, [], hW', trodAll_mk1 (shut_bool Tryz.underlying4 _), trodAll_mk4 harg0 harg1 harg2 (shut_int Tryz.underlying3 hw3), rfl, hb.frame _, fun h => by cases h⟩
theorem parts_holds : Rows.LensPartsSaid :=
 OpenClaim.holds_of_wide 5 Tryz.f5 rfl rfl rfl rfl rfl rfl rfl ⟨rfl, rfl, rfl, rfl, rfl⟩ rfl rfl rfl rfl rfl (by kernel_rfl) Tryz.func5 (by kernel_rfl)
  (of_decide_eq_true (by kernel_rfl)) (by unfold Func.isWrapper; first | (rw [if_pos (by decide +kernel)]; kernel_rfl) | (rw [if_neg (by decide +kernel)]; exact ⟨rfl, rfl⟩))
  (fun os started H enc _ => parts_lifted os started H enc)
end Go.Proofs.YtnielhfaioakkaaGreat
