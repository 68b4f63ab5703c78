/- The law DictInverse, of the loaded functions. -/
import Derived.Test.YtnielhfaioakkaaGreatClapV25
import Derived.Test.YtnielhfaioakkaaGreatClapV26
set_option linter.unusedVariables false
set_option linter.unusedSimpArgs false
namespace Go.Clap
variable {P : Program} {fid : Nat → FuncId}

structure HInv (P : Program) (fid : Nat → FuncId) : Prop extends HTab P fid where
  c309 : chkF SS P fid 309 ir309 = true
structure HInverse (P : Program) (fid : Nat → FuncId) : Prop extends HInv P fid where
  c312 : chkF SS P fid 312 ir312 = true
  c313 : chkF SS P fid 313 ir313 = true
  c303 : chkF SS P fid 303 ir303 = true

theorem g309 (H : HInv P fid) (n : Nat) (hn : 1 ≤ n) (hn2 : n ≤ 12) (σ : LIS) (h : Pm n σ) : Gives (Spec SS P fid) 309 [lD .two (tabW σ)] (.tup [lD .two (tabW (inv n σ)), iD 0]) := fun R hR => by
  have hl : (tabW σ).length = n := by rw [tabF_len, pm_len h]
  refine spec_of_vc H.mx H.c309 (vc309 (tabW σ) (by omega) (g46 H.toHLook _ (vp_tab hn hn2 h)) _ (g48 H.toHLook kyN _ (by rw [List.length_map]; omega) (ky_swap σ) (fun p hp => ?_)) R (fun l' hl' => ?_))
  · obtain ⟨q, hq, rfl⟩ := List.mem_map.1 hp
    obtain ⟨a, b, rfl⟩ := tab_num _ q hq
    exact ⟨small_num b, small_num a⟩
  · rw [swap_sorted h hl'.1 hl'.2]
    exact hR
theorem g312 (H : HInverse P fid) (n : Nat) (σ : LIS) (h : Pm n σ) (i : Nat) (hi : i < n) : Gives (Spec SS P fid) 312 [lD .two (tabW (inv n σ)), vD (numV i)] (.tup [vD (numV (σ.idxOf (i : Int) : Nat)), bD true]) := fun R hR => by
  obtain ⟨x, hx, h1, h2⟩ := idx_tab (inv_pm h) hi
  have h3 := tab_at (inv_get σ hi)
  exact spec_of_vc H.mx H.c312 (vc312 _ _ i _ h2 h3 (g47 H.toHLook 0 (.inl rfl) _ _) (g57 H.toHCop _ (small_num _)) R hR)
theorem g313 (H : HInverse P fid) (n : Nat) (σ : LIS) (h : Pm n σ) (i : Nat) (hi : i < n) : Gives (Spec SS P fid) 313 [lD .two (tabW σ), vD (numV i)] (.tup [vD (numV (σ.idxOf (i : Int) : Nat)), bD true]) := fun R hR => by
  have h2 : idxP 1 (numV (i : Int)) (tabW σ) 0 = ((σ.idxOf (i : Int) : Nat) : Int) := by rw [idxP1_tab σ 0 i 0 (pm_has h hi)]; omega
  have h3 := tab_at (idx_get h hi)
  exact spec_of_vc H.mx H.c313 (vc313 _ _ _ _ h2 h3 (g47 H.toHLook 1 (.inr rfl) _ _) (g57 H.toHCop _ (small_num _)) R hR)

theorem g303 (H : HInverse P fid) (x : LIS) (d : Int) : Gives (Spec SS P fid) 303 [lD .int x, iD d] (bD true) := by
  obtain ⟨k, hk, hb⟩ := bel_bd d 12 (by omega) (by omega)
  refine fun R hR => spec_of_vc H.mx H.c303 (vc303 x d (k + 1) (by rw [show bel d 12 = (k : Int) from hb]; omega) (by omega) (by omega) (g26 H.toHChk d 12 (by decide)) (g44 H.toHChk) (fun a => ?_)
    (fun l R hR => g27 H.toHTab l (k + 1) (by omega) (by omega) R hR) (fun σ h => g309 H.toHInv (k + 1) (by omega) (by omega) σ h) (fun σ h => ?_) (fun a h => g29t H.toHTab a) (fun σ h i hi => g312 H (k + 1) σ h i hi) (fun σ h i hi => g313 H (k + 1) σ h i hi) R hR)
  · have := g11 H.toHCmp (numV a) (numV a)
    rwa [decide_eq_true (by rw [cmp_num, cmpI_eq0])] at this
  · have := g28t H.toHComp (k + 1) (by omega) (by omega) σ (inv (k + 1) σ) h (inv_pm h)
    rwa [thr_inv h] at this

end Go.Clap
