/- The law DictCycles, of the loaded functions. -/
import Derived.Test.YtnielhfaioakkaaGreatClapV27
import Derived.Test.YtnielhfaioakkaaGreatClapV28
set_option linter.unusedVariables false
set_option linter.unusedSimpArgs false
namespace Go.Clap
variable {P : Program} {fid : Nat → FuncId}

structure HCyc (P : Program) (fid : Nat → FuncId) : Prop extends HInv P fid where
  c326 : chkF SS P fid 326 ir326 = true
  c346 : chkF SS P fid 346 ir346 = true
  c369 : chkF SS P fid 369 ir369 = true
  c386 : chkF SS P fid 386 ir386 = true
  c392 : chkF SS P fid 392 ir392 = true
  c327 : chkF SS P fid 327 ir327 = true
  c306 : chkF SS P fid 306 ir306 = true

theorem g346 (H : HCyc P fid) (l : LIS) (hl : l.length ≤ 12) (R : RR) (hR : ∀ l' : LIS, (l'.Perm l ∧ SortedI l') → R (.tup []) (rI l')) : Spec SS P fid 346 [oW l.length] (rI l) R :=
  spec_of_vc H.mx H.c346 (vc346 l hl (fun R hR => spec_of_vc H.mx H.c98 (vc98 _ (fun R hR => spec_of_vc H.mx H.c126 (vc126 _ (wrap64_nn _) R hR)) R hR)) (fun l' => l'.Perm l ∧ SortedI l')
    (fun m R hR => spec_of_vc H.mx H.c369 (vc369 l hl m _ (fun R hR => spec_of_vc H.mx H.c386 (vc386 l (by omega)
      (fun p q R hR => spec_of_vc H.mx H.c392 (vc392 (g59 H.toHCmp) p q R hR)) R (fun l' h1 h2 => hR l' ⟨h1, h2⟩))) R hR)) R hR)

theorem uniqI : ∀ (l l' : LIS), SortedI l → l'.Perm l → SortedI l' → l' = l
  | [], l', _, hp, _ => hp.eq_nil
  | a :: l, l', hr, hp, hs => by
    cases hr with
    | cons h1 h2 =>
      cases l' with
      | nil => have := hp.length_eq; simp at this
      | cons b t =>
        cases hs with
        | cons h3 h4 =>
          have hb : b ∈ a :: l := hp.subset (List.mem_cons_self ..)
          have ha : a ∈ b :: t := hp.symm.subset (List.mem_cons_self ..)
          have hba : b = a := by
            rcases List.mem_cons.1 hb with h | hb
            · exact h
            · rcases List.mem_cons.1 ha with h | ha
              · exact h.symm
              · have := h1 b hb
                have := h3 a ha
                omega
          subst hba
          rw [uniqI l t h2 (List.Perm.cons_inv hp) h4]

def sN (σ : LIS) (k : Nat) : Nat := ((σ[k]?).getD 0).toNat
theorem sN_of {σ : LIS} {k j : Nat} (h : σ[k]? = some (j : Int)) : sN σ k = j := by simp [sN, h]
theorem both_inv {n : Nat} {σ : LIS} (h : Pm n σ) : Both (sN σ) (sN (inv n σ)) n := by
  refine ⟨fun k hk => ?_, fun k hk => ?_, fun k hk => ?_, fun k hk => ?_⟩
  · obtain ⟨j, hj, e⟩ := pm_get h hk
    rw [sN_of e]; exact hj
  · rw [sN_of (inv_get σ hk)]; exact idx_lt h hk
  · obtain ⟨j, hj, e⟩ := pm_get h hk
    rw [sN_of e, sN_of (inv_get σ hj), idx_of h e]
  · rw [sN_of (inv_get σ hk), sN_of (idx_get h hk)]
def cyS (n : Nat) (σ : LIS) : LIS := (ofN (raws (sN σ) n)).mergeSort (fun a b => decide (a ≤ b))
theorem cyS_perm (n : Nat) (σ : LIS) : (cyS n σ).Perm (ofN (raws (sN σ) n)) := List.mergeSort_perm _ _
theorem cyS_sorted (n : Nat) (σ : LIS) : SortedI (cyS n σ) := by
  have := List.pairwise_mergeSort (le := fun a b : Int => decide (a ≤ b)) (fun a b c h1 h2 => by simp at *; omega) (fun a b => by simp; omega) (ofN (raws (sN σ) n))
  exact this.imp (by simp)
theorem ofN_sum : ∀ l : List Nat, (ofN l).sum = (l.sum : Nat)
  | [] => rfl
  | a :: l => by
    have ih := ofN_sum l
    simp only [ofN, List.map_cons, List.sum_cons] at ih ⊢
    rw [ih]
    simp
theorem perm_sumI {l l' : LIS} (h : l'.Perm l) : l'.sum = l.sum := by
  induction h with
  | nil => rfl
  | cons x _ ih => simp [ih]
  | swap x y l => simp only [List.sum_cons]; omega
  | trans _ _ h1 h2 => exact h1.trans h2

theorem g326 (H : HCyc P fid) (n : Nat) (hn : 1 ≤ n) (hn2 : n ≤ 12) (σ : LIS) (h : Pm n σ) : Gives (Spec SS P fid) 326 [lD .two (tabW σ)] (.tup [lD .int (cyS n σ), iD 0]) := fun R hR => by
  have hl : (tabW σ).length = n := by rw [tabF_len, pm_len h]
  have hrl : (ofN (raws (sN σ) (tabW σ).length)).length ≤ 12 := by rw [ofN_len]; have := raws_len (sN σ) (tabW σ).length; omega
  refine spec_of_vc H.mx H.c326 (vc326 (tabW σ) (sN σ) (by omega) (fun k hk => by rw [hl] at hk ⊢; exact (both_inv h).s1 k hk) (g46 H.toHLook _ (vp_tab hn hn2 h)) (fun k p hp => ?_) (fun p hp => ?_)
    (fun l' => l'.Perm (ofN (raws (sN σ) (tabW σ).length)) ∧ SortedI l') (g346 H _ hrl) (fun l' h => h.1.length_eq) R (fun l' hl' => ?_))
  · obtain ⟨x, h1, rfl⟩ := tabF_get _ _ _ _ hp
    obtain ⟨j, hj, rfl⟩ := pm_mem h h1
    obtain ⟨y, hy, h2, h3⟩ := idx_tab h hj
    have := g47 H.toHLook 0 (.inl rfl) (numV (j : Int)) (tabW σ)
    rw [h3] at this
    rw [sN_of h1]
    exact this
  · obtain ⟨k, hk⟩ := List.getElem?_of_mem hp
    obtain ⟨x, h1, rfl⟩ := tabF_get _ _ _ _ hk
    have hkn : k < n := by have := (List.getElem?_eq_some_iff.1 h1).1; rwa [pm_len h] at this
    have h2 : idxP 1 (numV ((0 + k : Nat) : Int)) (tabW σ) 0 = ((σ.idxOf (k : Int) : Nat) : Int) := by
      rw [Nat.zero_add, idxP1_tab σ 0 k 0 (pm_has h hkn)]; omega
    have := g47 H.toHLook 1 (.inr rfl) (numV ((0 + k : Nat) : Int)) (tabW σ)
    rw [h2] at this
    exact ⟨_, this⟩
  · rw [hl] at hl'
    rw [uniqI _ _ (cyS_sorted n σ) (hl'.1.trans (cyS_perm n σ).symm) hl'.2]
    exact hR

theorem g306 (H : HCyc P fid) (x : LIS) (d : Int) : Gives (Spec SS P fid) 306 [lD .int x, iD d] (bD true) := by
  obtain ⟨k, hk, hb⟩ := bel_bd d 12 (by omega) (by omega)
  refine fun R hR => spec_of_vc H.mx H.c306 (vc306 x d (k + 1) (by rw [show bel d 12 = (k : Int) from hb]; omega) (by omega) (by omega) (g26 H.toHChk d 12 (by decide))
    (fun l R hR => g27 H.toHTab l (k + 1) (by omega) (by omega) R hR) (fun σ h => g309 H.toHInv (k + 1) (by omega) (by omega) σ h) (cyS (k + 1)) (fun σ h => ?_) (fun σ h => ⟨?_, fun a ha => ?_, ?_⟩)
    (fun σ h => g326 H (k + 1) (by omega) (by omega) σ h) (fun l R hR => spec_of_vc H.mx H.c327 (vc327 l R hR)) R hR)
  · rw [cyS, cyS, raws_same (both_inv h)]
  · rw [perm_sumI (cyS_perm _ σ), ofN_sum, raws_sum]
  · have := (cyS_perm (k + 1) σ).subset ha
    simp only [ofN, List.mem_map] at this
    obtain ⟨b, _, rfl⟩ := this
    exact Int.natCast_nonneg b
  · rw [(cyS_perm (k + 1) σ).length_eq, ofN_len]
    have := raws_len (sN σ) (k + 1)
    omega

end Go.Clap
