/- The law DictExtends, of the loaded functions. -/
import Derived.Test.YtnielhfaioakkaaGreatClapV27
import Derived.Test.YtnielhfaioakkaaGreatClapP6
set_option linter.unusedVariables false
set_option linter.unusedSimpArgs false
namespace Go.Clap

section
variable {O : Oracle TT}
theorem vc304 (x : LIS) (d e : Int) (n m : Nat) (hd : bel d 12 = (n : Int) - 1) (hn : 1 ≤ n) (hn2 : n ≤ 12) (he : bel e n = (m : Int) - 1) (hm : 1 ≤ m) (hm2 : m ≤ n)
    (h26 : Gives O 26 [iD d, iD 12] (iD (bel d 12))) (h26' : Gives O 26 [iD e, iD n] (iD (bel e n)))
    (h27 : ∀ (l : LIS) (R : RR), (∀ σ, Pm n σ → R (lD .two (tabW σ)) []) → O 27 [lD .int l, iD n] [] R)
    (h316 : ∀ σ, Pm n σ → Gives O 316 [lD .two (tabW (σ.take m)), iD 0, iD ((n : Int) - 1)] (.tup [lD .two (tabW (cpl n m σ)), iD 0]))
    (h317 : ∀ σ, Pm n σ → Gives O 317 [lD .two (tabW (cpl n m σ)), lD .two (tabW (σ.take m))] (.tup [lD .two (tabW (cpl n m σ)), iD 0]))
    (h318 : ∀ σ, Pm n σ → Gives O 318 [lD .two (tabW (σ.take m)), lD .two (tabW (cpl n m σ))] (.tup [.c .nils, iD 0]))
    (h29 : ∀ a : LIS, Gives O 29 [lD .two (tabW a), lD .two (tabW a)] (bD true))
    (R : RR) (hR : R (bD true) []) : vcF (S := SS) O ir304 [lD .int x, iD d, iD e] [] R := by
  have wn : IntKind.wrap .i64 (1 + bel d 12) = (n : Int) := by rw [hd, wrapS _ (by omega) (by omega)]; omega
  have wm : IntKind.wrap .i64 (1 + bel e n) = (m : Int) := by rw [he, wrapS _ (by omega) (by omega)]; omega
  have wl : IntKind.wrap .i64 ((n : Int) - 1) = (n : Int) - 1 := wrapS _ (by omega) (by omega)
  have wm' := wm
  rw [← wn] at h27 h26' wm'
  rw [← wl] at h316
  rw [← wn] at h316
  refine ⟨Nat.le_of_ble_eq_true rfl, rfl, ?_⟩
  conv => whnf
  refine ⟨[], ?_⟩
  conv => whnf
  refine h26 _ ?_
  conv => whnf
  refine ⟨[], ?_⟩
  conv => whnf
  refine h27 _ _ (fun σ hσ => ?_)
  have hl : ((tabW σ).length : Int) = n := by rw [tabF_len, pm_len hσ]
  have g316 := h316 σ hσ
  have g317 := h317 σ hσ
  have g318 := h318 σ hσ
  have gl : ((tabW (cpl n m σ)).length : Int) = IntKind.wrap .i64 (1 + bel d 12) := by rw [tabF_len, pm_len (cpl_pm hσ), wn]
  have ht := tab_take m σ 0
  have g29 := h29 (cpl n m σ)
  generalize tabW (cpl n m σ) = all at *
  have h316' : ∀ X : WL, X = tabW (σ.take m) → Gives O 316 [lD .two X, iD 0, iD (IntKind.wrap .i64 (IntKind.wrap .i64 (1 + bel d 12) - 1))] (.tup [lD .two all, iD 0]) := by rintro _ rfl; exact g316
  have h317' : ∀ X : WL, X = tabW (σ.take m) → Gives O 317 [lD .two all, lD .two X] (.tup [lD .two all, iD 0]) := by rintro _ rfl; exact g317
  have h318' : ∀ X : WL, X = tabW (σ.take m) → Gives O 318 [lD .two X, lD .two all] (.tup [.c .nils, iD 0]) := by rintro _ rfl; exact g318
  have hX : ((tabW σ).drop 0).take ((IntKind.wrap .i64 (1 + bel e (IntKind.wrap .i64 (1 + bel d 12)))).toNat - 0) = tabW (σ.take m) := by
    rw [wm', Int.toNat_natCast, List.drop_zero, Nat.sub_zero]
    exact ht
  conv => whnf
  refine ⟨[], ?_⟩
  conv => whnf
  refine h26' _ ?_
  conv => whnf
  have hs1 : (0 : Int) ≤ IntKind.wrap .i64 (1 + bel e (IntKind.wrap .i64 (1 + bel d 12))) := by rw [wm']; omega
  have hs2 : 0 ≤ (IntKind.wrap .i64 (1 + bel e (IntKind.wrap .i64 (1 + bel d 12)))).toNat ∧ (IntKind.wrap .i64 (1 + bel e (IntKind.wrap .i64 (1 + bel d 12)))).toNat ≤ (tabW σ).length := by rw [wm']; omega
  refine ⟨hs1, ?_⟩
  conv => whnf
  refine ⟨hs2, ?_⟩
  conv => whnf
  refine ⟨[], ?_⟩
  conv => whnf
  refine h316' _ hX _ ?_
  conv => whnf
  refine ⟨[], ?_⟩
  conv => whnf
  refine h317' _ hX _ ?_
  conv => whnf
  refine ⟨[], ?_⟩
  conv => whnf
  refine h318' _ hX _ ?_
  conv => whnf
  iterate 3
    intro t ht
    obtain rfl : t = true := ht
    conv => whnf
  intro _
  conv => whnf
  intro t ht
  have ht : t = true := Eq.trans ht (by rw [gl]; exact beq_self_eq_true _)
  subst ht
  conv => whnf
  intro t ht
  obtain rfl : t = true := ht
  conv => whnf
  refine ⟨[], ?_⟩
  conv => whnf
  refine g29 _ ?_
  conv => whnf
  exact ⟨[], .nil, hR⟩
end

variable {P : Program} {fid : Nat → FuncId}
structure HExt (P : Program) (fid : Nat → FuncId) : Prop extends HTab P fid where
  c337 : chkF SS P fid 337 ir337 = true
  c318 : chkF SS P fid 318 ir318 = true
  c317 : chkF SS P fid 317 ir317 = true
  c316 : chkF SS P fid 316 ir316 = true
  c304 : chkF SS P fid 304 ir304 = true

theorem g337 (H : HExt P fid) (l : WL) (hl : l.length ≤ 12) (hne : l ≠ []) (R : RR) (h : R (.c (.osl (.x 0) 0 l.length)) [(.x 0, some (.row false .two l))]) : Spec SS P fid 337 [lD .two l] [] R :=
  spec_of_vc H.mx H.c337 (vc337 l R hl hne h)
theorem g48t (H : HLook P fid) (σ : LIS) (hl : σ.length ≤ 12) (R : RR) (hR : ∀ l', l' = tabW σ → R (lD .two l') []) : Spec SS P fid 48 [lD .two (tabW σ)] [] R :=
  g48 H kyN (tabW σ) (by rw [tabF_len]; exact hl) ky_tab (fun p hp => by
    obtain ⟨a, b, rfl⟩ := tab_num _ p hp
    exact ⟨small_num a, small_num b⟩) R (fun l' h => hR l' (uniqK kyN _ _ (rise_tab _ 0).1 h.1 h.2))
theorem tabW_take (m : Nat) (σ : LIS) : (tabW σ).take m = tabW (σ.take m) := tab_take m σ 0
theorem tab_first {n : Nat} {σ : LIS} (h : Pm n σ) (hn : 1 ≤ n) : ∃ y : Int, (tabW σ)[0]? = some (numV 0, numV y) := by
  obtain ⟨j, hj, e⟩ := pm_get h (show 0 < n by omega)
  exact ⟨j, tab_at e⟩
theorem take_first {l : WL} {m : Nat} (hm : 1 ≤ m) {p : V × V} (h : l[0]? = some p) : (l.take m)[0]? = some p := by
  rw [List.getElem?_take, if_pos (by omega)]
  exact h

section
variable (H : HExt P fid) {n m : Nat} (hn : 1 ≤ n) (hn2 : n ≤ 12) (hm : 1 ≤ m) (hm2 : m ≤ n) {σ : LIS} (h : Pm n σ)
include H hn hn2 hm hm2 h
theorem g316t : Gives (Spec SS P fid) 316 [lD .two (tabW (σ.take m)), iD 0, iD ((n : Int) - 1)] (.tup [lD .two (tabW (cpl n m σ)), iD 0]) := fun R hR => by
  obtain ⟨q1, q2⟩ := cpl_len h hm2
  have hcp := cpl_pm (m := m) h
  have hcl := pm_len hcp
  have hvp := vp_tab hn hn2 h
  have hvt : VP (tabW (σ.take m)) := by rw [← tabW_take]; exact vp_take hvp hm
  obtain ⟨y, hy⟩ := tab_first h hn
  have hf := take_first (m := m) hm hy
  rw [tabW_take] at hf
  have hlen : (tabW (σ.take m)).length ≤ 12 := by rw [tabF_len]; omega
  have hlab : (lf 0 (tabW (σ.take m)) n).length = (lf 1 (tabW (σ.take m)) n).length := by rw [lf0_tab, frm_len, q1, q2]
  refine spec_of_vc H.mx H.c316 (vc316 (tabW (σ.take m)) n hn hn2 hlen 0 y hf (fun p hp => ?_) (g46 H.toHLook _ hvt) (fun k hk v => g47 H.toHLook k hk (numV v) _)
    (fun R hR => g337 H _ hlen (fun e => by rw [e] at hf; cases hf) R hR) hlab ?_ (fun l' => l' = tabW (cpl n m σ)) ?_ R (fun l' hl' => by rw [hl']; exact hR))
  · obtain ⟨j, hj⟩ := List.getElem?_of_mem hp
    obtain ⟨x, h1, rfl⟩ := tabF_get _ _ _ _ hj
    have hjl := (List.getElem?_eq_some_iff.1 h1).1
    obtain ⟨k, hk, rfl⟩ := mem_rng (h.subset (List.mem_of_mem_take (List.mem_of_getElem? h1)))
    exact ⟨0 + j, k, by omega, hk, rfl⟩
  · rw [cpl_tab h hm2]
    exact g46 H.toHLook _ (vp_tab hn hn2 hcp)
  · rw [cpl_tab h hm2]
    exact fun R hR => g48t H.toHLook _ (by omega) R hR
theorem g317t : Gives (Spec SS P fid) 317 [lD .two (tabW (cpl n m σ)), lD .two (tabW (σ.take m))] (.tup [lD .two (tabW (cpl n m σ)), iD 0]) := fun R hR => by
  obtain ⟨q1, q2⟩ := cpl_len h hm2
  have hcp := cpl_pm (m := m) h
  have hcl := pm_len hcp
  have hvt : VP (tabW (σ.take m)) := by rw [← tabW_take]; exact vp_take (vp_tab hn hn2 h) hm
  obtain ⟨y, hy⟩ := tab_first h hn
  have hf := take_first (m := m) hm hy
  rw [tabW_take] at hf
  obtain ⟨z, hz⟩ := tab_first hcp hn
  have hlen : (tabW (cpl n m σ)).length ≤ 12 := by rw [tabF_len]; omega
  refine spec_of_vc H.mx H.c317 (vc317 (tabW (cpl n m σ)) (tabW (σ.take m)) hlen (by rw [tabF_len]; omega) (fun k hk => ?_) 0 z 0 y hz hf (fun p hp => ?_)
    (fun R hR => g337 H _ hlen (fun e => by rw [e] at hz; cases hz) R hR) (fun l' => l' = tabW (cpl n m σ)) (fun R hR => g48t H.toHLook _ (by omega) R hR) R (fun l' hl' => by rw [hl']; exact hR))
  · rcases List.mem_cons.1 hk with rfl | hk
    · exact g46 H.toHLook _ (vp_tab hn hn2 hcp)
    · obtain rfl := List.mem_singleton.1 hk
      exact g46 H.toHLook _ hvt
  · obtain ⟨j, hj⟩ := List.getElem?_of_mem hp
    obtain ⟨x, h1, rfl⟩ := tabF_get _ _ _ _ hj
    obtain ⟨e0, e1, e2, e3, e4⟩ := part_in h hm2 h1
    have a1 := g47 H.toHLook 0 (.inl rfl) (numV (j : Int)) (tabW (cpl n m σ))
    have a2 := g47 H.toHLook 1 (.inr rfl) (numV x) (tabW (cpl n m σ))
    rw [e1] at a1
    rw [e2] at a2
    rw [Nat.zero_add]
    exact ⟨j, a1, a2⟩
theorem g318t : Gives (Spec SS P fid) 318 [lD .two (tabW (σ.take m)), lD .two (tabW (cpl n m σ))] (.tup [.c .nils, iD 0]) := fun R hR => by
  obtain ⟨q1, q2⟩ := cpl_len h hm2
  have hcp := cpl_pm (m := m) h
  have hcl := pm_len hcp
  have hvt : VP (tabW (σ.take m)) := by rw [← tabW_take]; exact vp_take (vp_tab hn hn2 h) hm
  refine spec_of_vc H.mx H.c318 (vc318 (tabW (σ.take m)) (tabW (cpl n m σ)) (by rw [tabF_len]; omega) (fun k hk => ?_) (fun p hp => ?_) R hR)
  · rcases List.mem_cons.1 hk with rfl | hk
    · exact g46 H.toHLook _ hvt
    · obtain rfl := List.mem_singleton.1 hk
      exact g46 H.toHLook _ (vp_tab hn hn2 hcp)
  · obtain ⟨j, hj⟩ := List.getElem?_of_mem hp
    obtain ⟨x, h1, rfl⟩ := tabF_get _ _ _ _ hj
    have a1 := g47 H.toHLook 0 (.inl rfl) (numV (j : Int)) (tabW (σ.take m))
    have a2 := g47 H.toHLook 1 (.inr rfl) (numV x) (tabW (σ.take m))
    rw [Nat.zero_add]
    by_cases hjm : j < m
    · have h2 : (σ.take m)[j]? = some x := by rw [cpl, List.getElem?_append_left (by omega)] at h1; exact h1
      obtain ⟨e0, e1, e2, e3, e4⟩ := part_in h hm2 h2
      rw [e3] at a1
      rw [e4] at a2
      exact ⟨_, a1, a2⟩
    · obtain ⟨e1, e2⟩ := part_out h hm2 h1 (by omega)
      rw [e1] at a1
      rw [e2] at a2
      exact ⟨_, a1, a2⟩
end

theorem g304 (H : HExt P fid) (x : LIS) (d e : Int) : Gives (Spec SS P fid) 304 [lD .int x, iD d, iD e] (bD true) := by
  obtain ⟨k, hk, hb⟩ := bel_bd d 12 (by omega) (by omega)
  obtain ⟨j, hj, hc⟩ := bel_bd e (k + 1) (by omega) (by omega)
  exact fun R hR => spec_of_vc H.mx H.c304 (vc304 x d e (k + 1) (j + 1) (by rw [show bel d 12 = (k : Int) from hb]; omega) (by omega) (by omega) (by rw [hc]; omega) (by omega) (by omega)
    (g26 H.toHChk d 12 (by decide)) (g26 H.toHChk e _ (by omega)) (fun l R hR => g27 H.toHTab l (k + 1) (by omega) (by omega) R hR)
    (fun σ h => g316t H (by omega) (by omega) (by omega) (by omega) h) (fun σ h => g317t H (by omega) (by omega) (by omega) (by omega) h) (fun σ h => g318t H (by omega) (by omega) (by omega) (by omega) h)
    (fun a => g29t H.toHTab a) R hR)

end Go.Clap
