/- The law LensTextFixed: what is read as a lens is printed as that text, so every text has one lens: for every string the call returns true, and the argument reads behind the call as it read before. The row lists package-level variables, and the card ties them to the program text. No condition. -/
import Derived.Test.YtnjgakngmbbmfaaGreatDoorRows
import Derived.Test.YtnjgakngmbbmfaaGreatDoorCards
import Derived.Test.YtnjgakngmbbmfaaGreatDoorTie
import Derived.SevenTiedAt
import Derived.LaidMore
import Derived.Lib.LaidTab
import Derived.Stop.LaidErr
import Derived.MakeChecks
import Derived.ChangeMaps5
import Derived.Lay
import Derived.Test.YtnjgakngmbbmfaaGreatDoorClapRow
import Derived.Test.YtnjgakngmbbmfaaGreatDoorClapQC
namespace Go.Proofs.YtnjgakngmbbmfaaGreatDoor
open Go Go.ChangeShapes Go.WideShapes Go.ChangeAt Go.RowKit Go.Clap
theorem own : ownKnob Tryz.prog.godebug = none := by kernel_rfl
theorem fixed_met (os : Os) (args : Array Value) : laidMetH Tryz.prog Rows.lensTextFixedRow.laid ((World.laidAll Tryz.prog os Rows.lensTextFixedRow.laid).forCall (fun _ _ => 0) ⟨#[], args, []⟩).memory := by
 rw [MakeChecks.laidMetH_plain _ _ _ (by kernel_rfl)]
 exact laidMet_laidAll _ (by kernel_rfl) (by kernel_rfl)
theorem star : "*" ++ "errors.errorString" = "*errors.errorString" := by decide
theorem row218 (u : TypeId) (h : Tryz.prog.typeName? 3 u = some "*errors.errorString") : u = 218 :=
 typeName_ptr_named (nm := "errors.errorString") (by rw [star]; kernel_rfl) (by kernel_rfl) (by decide) u (by rw [star]; exact h)
theorem var_block {P : Program} {W : World} {n : String} {g : Nat} {arr : Array Value} (hg : P.globalNamed n = some g) (h : W.var? P n = some arr) : ∃ t fr, W.heap[g]? = some (.cells arr t fr) := by
 simp only [World.var?, hg, Option.bind_some] at h
 split at h
 · rename_i cs t fr he
   cases h
   exact ⟨t, fr, he⟩
 · cases h
theorem globs {W : World} (h : laidMetH Tryz.prog Rows.lensTextFixedRow.laid W) : ∀ b ∈ SS.glob, ∃ arr t fr, W.heap[b]? = some (.cells arr t fr) ∧ SS.gok b arr := by
 rw [MakeChecks.laidMetH_plain _ _ _ (by kernel_rfl)] at h
 have h2 := (h.tail).tail
 have ht := Lib.tabIs_of_head (g := 1) (t := 173) (e := 124) (n := 20) (by kernel_rfl) (by kernel_rfl) (by kernel_rfl) (by kernel_rfl) (by kernel_rfl) (by kernel_rfl) (zs := Lib.pow10Tab) h2
 have h3 := (h2.tail).tail
 obtain ⟨a3, s3, hv3, _⟩ := laid_sentinel h3 (g := 3) (ti := 99) (ts := 9) (tp := 218) (te := 220) (by kernel_rfl) (by kernel_rfl) Tryz.underlying99 row218 Tryz.underlying218 Tryz.underlying220 rfl rfl Tryz.underlying9 (by kernel_rfl) (by kernel_rfl)
 have h4 := h3.tail
 obtain ⟨a2, s2, hv2, _⟩ := laid_sentinel h4 (g := 2) (ti := 99) (ts := 9) (tp := 218) (te := 220) (by kernel_rfl) (by kernel_rfl) Tryz.underlying99 row218 Tryz.underlying218 Tryz.underlying220 rfl rfl Tryz.underlying9 (by kernel_rfl) (by kernel_rfl)
 intro b hb
 have hb : b = 1 ∨ b = 2 ∨ b = 3 := by simpa using hb
 rcases hb with rfl | rfl | rfl
 · obtain ⟨t, fr, hh⟩ := var_block (g := 1) (by kernel_rfl) ht
   exact ⟨_, t, fr, hh, fun _ => rfl, fun h => by rcases h with h | h <;> cases h⟩
 · obtain ⟨t, fr, hh⟩ := var_block (g := 2) (by kernel_rfl) hv2
   exact ⟨_, t, fr, hh, And.intro (fun h => by cases h) (fun _ => ⟨_, _, rfl⟩)⟩
 · obtain ⟨t, fr, hh⟩ := var_block (g := 3) (by kernel_rfl) hv3
   exact ⟨_, t, fr, hh, And.intro (fun h => by cases h) (fun _ => ⟨_, _, rfl⟩)⟩
set_option maxRecDepth 100000 in
theorem fixed_lifted (os : Os) (started : os.Started) (H : Type) (enc : TypeId × Value → H) :
 ReturnsInHanded {} Tryz.checked os 3 .any (fun w args => (Rows.lensTextFixedSpec.pre enc Tryz.prog Tryz.f3 [] false w args ∧ laidMetH Tryz.prog Rows.lensTextFixedRow.laid w) ∧ sizedMet enc Tryz.prog Tryz.f3 (OpenSpec.ofChange Rows.lensTextFixedSpec) false w args)
  (Rows.lensTextFixedSpec.post enc Tryz.prog Tryz.f3 false true false false) := by
 refine returnsInHanded_of_change_and (C := Tryz.checked) (X := fun w _ => laidMetH Tryz.prog Rows.lensTextFixedRow.laid w) (fun _ _ _ hh h => h.of_heap hh) own started (by kernel_rfl) Tryz.func3
  (ChangeSpec.witness_shaped (enc := enc) (C := Tryz.checked) (os := os) (X := fun w _ => laidMetH Tryz.prog Rows.lensTextFixedRow.laid w) false (World.laidAll Tryz.prog os Rows.lensTextFixedRow.laid) #[.string ⟨#[]⟩] 8 (World.laidAll_os _ _ _) (World.shaped_of_ZipB (by kernel_rfl) (by kernel_rfl)) (by kernel_rfl) (by kernel_rfl) (by kernel_rfl) (fixed_met os _)) ?_
 intro W base args ds gs before hval0 hW _ _ hX _
 have hval : ∀ (j : Nat) t v, Tryz.f3.params[j]? = some t → args[j]? = some v → Value.okWide Tryz.prog W .any base t v := hval0
 have hW' := hW
 obtain ⟨p, q, hA0, hV, rfl, _, _⟩ := hW
 have hA : DataW.TrodAll enc Tryz.prog W 0 (fun _ => true) true Tryz.f3.params.toList args.toList ds p := hA0
 rw [Tryz.params3] at hA hval
 obtain ⟨v0, d0, rfl, rfl, h0⟩ := trodAll_one hA
 obtain ⟨rfl, rfl⟩ := trodVars_none hV
 obtain ⟨s, rfl, rfl, rfl, hs⟩ := ChangeMaps.open_string Tryz.underlying9 (hval 0 9 v0 rfl rfl) h0
 clear hA0 hval0
 simp only [List.append_nil] at hW'
 refine (calls_of_spec (fid := fidF) (fixed_spec s) (vals := #[.string s]) rfl (fun i v d hv hd => ?_) (globs hX)).mono fun e W' ⟨he, hb⟩ => ?_
 · match i, hv, hd with
   | 0, hv, hd => simp at hv hd; subst hv; subst hd; rfl
   | i + 1, hv, hd => simp at hd
 subst he
 exact ⟨_, rfl, _, _, _, [], _, [], hW', trodAll_mk1 (shut_bool Tryz.underlying4 _), trodAll_mk1 (ChangeMaps.shut_string Tryz.underlying9 hs), rfl, hb.frame _, fun h => by cases h⟩
theorem fixed_row : Rows.LensTextFixedSaid :=
 OpenClaim.holds_of_wide 3 Tryz.f3 rfl rfl rfl rfl rfl rfl rfl ⟨rfl, rfl, rfl, rfl, rfl⟩ rfl rfl rfl rfl rfl (by kernel_rfl) Tryz.func3 (by kernel_rfl)
  (of_decide_eq_true (by kernel_rfl)) (by unfold Func.isWrapper; first | (rw [if_pos (by decide +kernel)]; kernel_rfl) | (rw [if_neg (by decide +kernel)]; exact ⟨rfl, rfl⟩))
  (fun os started H enc _ => fixed_lifted os started H enc)
theorem fixed_holds : Rows.LensTextFixedCardSaid :=
 Claim7.holds_tied_plain_at .later [] [.data, .data, .data, .data, .sentinel, .sentinel, .pinned] true (true, "00fb1fa5b83b8e90f3cbd6bbfa7a673eb50e5e8aff364a494209154c47e37439") true
  fixed_row (fun _ h => by cases h) (by kernel_rfl) (fun _ h => by cases h) lensTextFixed_row_tie rfl ⟨rfl, rfl⟩ (by kernel_rfl) rfl
  (fun f fn hf hfn => by
   obtain rfl : f = 3 := Option.some.inj ((show Tryz.prog.funcNamed "clapperbridge/clapkeep3.LensTextFixed" = some 3 by kernel_rfl).symm.trans hf) |>.symm
   obtain rfl : fn = Tryz.f3 := (Option.some.inj (Tryz.func3.symm.trans hfn)).symm
   exact ⟨by kernel_rfl, fun j t ht => by
    rw [Tryz.params3] at ht
    have hm : t ∈ [9] := by simpa using Array.mem_of_getElem? ht
    have hall : ([9].all fun u => !Tryz.prog.wantsStandIn u) = true := by kernel_rfl
    exact (show Tryz.prog.wantsStandIn t = false by simpa using List.all_eq_true.1 hall t hm)⟩)
  (by kernel_rfl)
end Go.Proofs.YtnjgakngmbbmfaaGreatDoor
