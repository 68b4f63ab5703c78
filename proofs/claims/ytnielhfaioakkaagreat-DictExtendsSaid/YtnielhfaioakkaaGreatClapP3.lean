/- The plain law of tables of numbers: they are lookups, one behind the other is again one. -/
import Derived.Test.YtnielhfaioakkaaGreatClapV20
import Derived.Test.YtnielhfaioakkaaGreatClapP0
set_option linter.unusedVariables false
set_option linter.unusedSimpArgs false
namespace Go.Clap

theorem cmpI_eq0 (a b : Int) : cmpI a b = 0 ↔ a = b := by
  unfold cmpI
  split
  · constructor <;> intro h <;> omega
  · split
    · constructor <;> intro h <;> omega
    · constructor <;> intro h <;> omega

theorem cmp_num (a b : Int) : cmpV (numV a) (numV b) = cmpI a b := by
  have h1 : cmpB ⟨#[]⟩ ⟨#[]⟩ = 0 := by decide
  have h2 : cmpI 2 2 = 0 := by decide
  have h3 : headI (.mk 2 a ⟨#[]⟩ []) (.mk 2 b ⟨#[]⟩ []) = cmpI a b := by
    simp only [headI, V.kind, V.n, V.s, h1, h2, orI]
    simp
    intro h; exact h.symm
  rw [numV, numV, cmpV, h3]
  simp only [V.fs, cmpFs]
  split
  · rename_i h; exact h.symm
  · rfl

theorem check_num {k : Nat} (h : k < 12) : checkV (numV k) = 0 := by
  have : ∀ k : Fin 12, checkV (numV (k.val : Int)) = 0 := by decide +kernel
  exact this ⟨k, h⟩

theorem tabF_get : ∀ (a : LIS) (i j : Nat) (p : V × V), (tabF i a)[j]? = some p → ∃ x, a[j]? = some x ∧ p = (numV ((i + j : Nat) : Int), numV x)
  | [], i, j, p, h => by simp [tabF] at h
  | y :: a, i, 0, p, h => by
    simp only [tabF, List.getElem?_cons_zero, Option.some.injEq] at h
    exact ⟨y, rfl, h.symm⟩
  | y :: a, i, j + 1, p, h => by
    simp only [tabF, List.getElem?_cons_succ] at h
    obtain ⟨x, h1, h2⟩ := tabF_get a (i + 1) j p h
    exact ⟨x, by simpa using h1, by rw [h2, show i + 1 + j = i + (j + 1) by omega]⟩

theorem mem_rng {n : Nat} {x : Int} (h : x ∈ rng n) : ∃ k : Nat, k < n ∧ x = k := by
  simp only [rng, List.mem_map, List.mem_range] at h
  obtain ⟨k, h1, h2⟩ := h
  exact ⟨k, h1, h2.symm⟩
theorem rng_nodup (n : Nat) : (rng n).Nodup := by
  unfold rng List.Nodup
  rw [List.pairwise_map]
  exact List.Pairwise.imp (fun h e => h (Int.ofNat.inj e)) List.nodup_range

abbrev Pm (n : Nat) (σ : LIS) : Prop := σ.Perm (rng n)
theorem pm_len {n : Nat} {σ : LIS} (h : Pm n σ) : σ.length = n := by rw [h.length_eq, rng_len]
theorem pm_mem {n : Nat} {σ : LIS} (h : Pm n σ) {j : Nat} {x : Int} (hx : σ[j]? = some x) : ∃ k : Nat, k < n ∧ x = k :=
  mem_rng (h.subset (List.mem_of_getElem? hx))
theorem pm_inj {n : Nat} {σ : LIS} (h : Pm n σ) {i j : Nat} {x : Int} (hi : σ[i]? = some x) (hj : σ[j]? = some x) : i = j := by
  have hn : σ.Nodup := h.symm.nodup (rng_nodup n)
  obtain ⟨h1, h2⟩ := List.getElem?_eq_some_iff.1 hi
  obtain ⟨h3, h4⟩ := List.getElem?_eq_some_iff.1 hj
  exact (List.getElem_inj hn).1 (h2.trans h4.symm)

theorem vp_tab {n : Nat} (hn : 1 ≤ n) (hn2 : n ≤ 12) {σ : LIS} (h : Pm n σ) : VP (tabW σ) := by
  have hl := pm_len h
  refine ⟨by rw [tabF_len]; omega, by rw [tabF_len]; omega, fun p hp => ?_, fun p hp => ?_, fun p hp q hq => ?_, fun i j p q hij hp hq => ?_⟩
  · obtain ⟨j, hj⟩ := List.getElem?_of_mem hp
    obtain ⟨x, h1, rfl⟩ := tabF_get _ _ _ _ hj
    obtain ⟨k, hk, rfl⟩ := pm_mem h h1
    have hjl := (List.getElem?_eq_some_iff.1 h1).1
    exact ⟨check_num (by omega), check_num (by omega)⟩
  · obtain ⟨j, hj⟩ := List.getElem?_of_mem hp
    obtain ⟨x, h1, rfl⟩ := tabF_get _ _ _ _ hj
    exact ⟨rfl, rfl⟩
  · obtain ⟨j, hj⟩ := List.getElem?_of_mem hp
    obtain ⟨x, h1, rfl⟩ := tabF_get _ _ _ _ hj
    obtain ⟨j', hj'⟩ := List.getElem?_of_mem hq
    obtain ⟨x', h1', rfl⟩ := tabF_get _ _ _ _ hj'
    exact ⟨rfl, rfl⟩
  · obtain ⟨x, h1, rfl⟩ := tabF_get _ _ _ _ hp
    obtain ⟨x', h1', rfl⟩ := tabF_get _ _ _ _ hq
    rw [cmp_num, cmp_num, Ne, Ne, cmpI_eq0, cmpI_eq0]
    refine ⟨by omega, fun e => ?_⟩
    subst e
    have := pm_inj h h1 h1'
    omega

/-! ### One behind the other -/
def thr (σ τ : LIS) : LIS := σ.map fun x => (τ[x.toNat]?).getD 0
theorem thr_len (σ τ : LIS) : (thr σ τ).length = σ.length := by simp [thr]
theorem fnd_tab (x : Nat) : ∀ (τ : LIS) (i : Nat), fndW (numV ((i + x : Nat) : Int)) (tabF i τ) = (τ[x]?).map numV
  | [], i => by simp [tabF, fndW]
  | y :: τ, i => by
    rw [tabF, fndW, cmp_num]
    cases x with
    | zero =>
      rw [Nat.add_zero, decide_eq_true ((cmpI_eq0 _ _).2 rfl)]
      rfl
    | succ x =>
      rw [decide_eq_false (fun h => by have := (cmpI_eq0 _ _).1 h; omega), show i + (x + 1) = i + 1 + x by omega]
      simpa using fnd_tab x τ (i + 1)
theorem comp_tab (τ : LIS) (n : Nat) (hτ : τ.length = n) : ∀ (σ : LIS) (i : Nat), (∀ x ∈ σ, ∃ k : Nat, k < n ∧ x = k) → compW (tabW τ) (tabF i σ) = tabF i (thr σ τ)
  | [], i, _ => rfl
  | x :: σ, i, h => by
    obtain ⟨k, hk, rfl⟩ := h x (List.mem_cons_self ..)
    have ih := comp_tab τ n hτ σ (i + 1) fun y hy => h y (List.mem_cons_of_mem _ hy)
    have hf := fnd_tab k τ 0
    rw [Nat.zero_add] at hf
    obtain ⟨y, hy⟩ : ∃ y, τ[k]? = some y := ⟨τ[k], List.getElem?_eq_getElem (by omega)⟩
    rw [hy] at hf
    rw [tabF, compW]
    simp only [hf, Option.map_some, ih, thr, List.map_cons, tabF, Int.toNat_natCast, hy, Option.getD_some]

theorem thr_pm {n : Nat} {σ τ : LIS} (h : Pm n σ) (h2 : Pm n τ) : Pm n (thr σ τ) := by
  have h1 : (thr σ τ).Perm (thr (rng n) τ) := h.map _
  refine h1.trans ?_
  have : thr (rng n) τ = τ := by
    apply List.ext_getElem?
    intro j
    have hl := pm_len h2
    simp only [thr, rng, List.map_map, List.getElem?_map]
    by_cases hj : j < n
    · rw [List.getElem?_range hj]
      simp only [Option.map_some, Function.comp, Int.ofNat_eq_natCast, Int.toNat_natCast]
      rw [List.getElem?_eq_getElem (by omega : j < τ.length)]
      rfl
    · rw [List.getElem?_eq_none (by simpa using hj), List.getElem?_eq_none (by omega)]
      rfl
  rw [this]
  exact h2

theorem thr_assoc {n : Nat} {a b c : LIS} (ha : Pm n a) (hb : Pm n b) (hc : Pm n c) : thr (thr a b) c = thr a (thr b c) := by
  unfold thr
  rw [List.map_map]
  apply List.map_congr_left
  intro x hx
  obtain ⟨k, hk, rfl⟩ := mem_rng (ha.subset hx)
  have hl := pm_len hb
  obtain ⟨y, hy⟩ : ∃ y, b[k]? = some y := ⟨b[k], List.getElem?_eq_getElem (by omega)⟩
  simp [hy]

/-! ### Sorted, they are themselves -/
def kyN (p : V × V) : Int := p.1.n
theorem ky_tab {σ : LIS} {i : Nat} : ∀ p ∈ tabF i σ, ∀ q ∈ tabF i σ, decide (cmpV p.1 q.1 < 0) = decide (kyN p < kyN q) := by
  intro p hp q hq
  obtain ⟨j, hj⟩ := List.getElem?_of_mem hp
  obtain ⟨x, h1, rfl⟩ := tabF_get _ _ _ _ hj
  obtain ⟨j', hj'⟩ := List.getElem?_of_mem hq
  obtain ⟨x', h1', rfl⟩ := tabF_get _ _ _ _ hj'
  rw [cmp_num, cmpI_lt]
  rfl
theorem uniqK (ky : V × V → Int) : ∀ (l l' : WL), l.Pairwise (fun p q => ky p < ky q) → l'.Perm l → SortedK ky l' → l' = l
  | [], l', _, hp, _ => hp.eq_nil
  | a :: l, l', hr, hp, hs => by
    cases hr with
    | cons h1 h2 =>
      cases l' with
      | nil => have := hp.length_eq; simp at this
      | cons b t =>
        cases hs with
        | cons h3 h4 =>
          have hb : b ∈ a :: l := hp.subset (List.mem_cons_self ..)
          have ha : a ∈ b :: t := hp.symm.subset (List.mem_cons_self ..)
          have hba : b = a := by
            rcases List.mem_cons.1 hb with h | hb
            · exact h
            · rcases List.mem_cons.1 ha with h | ha
              · exact h.symm
              · have := h1 b hb
                have := h3 a ha
                omega
          subst hba
          rw [uniqK ky l t h2 (List.Perm.cons_inv hp) h4]
theorem rise_tab : ∀ (σ : LIS) (i : Nat), (tabF i σ).Pairwise (fun p q => kyN p < kyN q) ∧ ∀ p ∈ tabF i σ, (i : Int) ≤ kyN p
  | [], i => ⟨.nil, fun p hp => by cases hp⟩
  | x :: σ, i => by
    obtain ⟨h1, h2⟩ := rise_tab σ (i + 1)
    refine ⟨.cons (fun p hp => ?_) h1, fun p hp => ?_⟩
    · have := h2 p hp
      show (i : Int) < kyN p
      omega
    · rcases List.mem_cons.1 hp with rfl | hp
      · exact Int.le_refl _
      · have := h2 p hp
        omega
end Go.Clap
