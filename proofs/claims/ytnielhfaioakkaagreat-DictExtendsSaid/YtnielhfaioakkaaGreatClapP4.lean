/- The plain law of tables turned around. -/
import Derived.Test.YtnielhfaioakkaaGreatClapP3
set_option linter.unusedVariables false
set_option linter.unusedSimpArgs false
namespace Go.Clap

def swW (p : V × V) : V × V := (p.2, p.1)
def inv (n : Nat) (σ : LIS) : LIS := (rng n).map fun x => ((σ.idxOf x : Nat) : Int)
theorem rng_get {n j : Nat} (h : j < n) : (rng n)[j]? = some (j : Int) := by
  simp only [rng, List.getElem?_map, List.getElem?_range h, Option.map_some, Int.ofNat_eq_natCast]
theorem inv_len (n : Nat) (σ : LIS) : (inv n σ).length = n := by simp [inv, rng_len]
theorem inv_get {n j : Nat} (σ : LIS) (h : j < n) : (inv n σ)[j]? = some ((σ.idxOf (j : Int) : Nat) : Int) := by
  simp only [inv, List.getElem?_map, rng_get h, Option.map_some]
theorem pm_nodup {n : Nat} {σ : LIS} (h : Pm n σ) : σ.Nodup := h.symm.nodup (rng_nodup n)
theorem pm_has {n : Nat} {σ : LIS} (h : Pm n σ) {j : Nat} (hj : j < n) : (j : Int) ∈ σ := h.symm.subset (List.mem_of_getElem? (rng_get hj))
theorem idx_get {n : Nat} {σ : LIS} (h : Pm n σ) {j : Nat} (hj : j < n) : σ[σ.idxOf (j : Int)]? = some (j : Int) := by
  have := List.idxOf_lt_length_iff.2 (pm_has h hj)
  rw [List.getElem?_eq_getElem this, List.getElem_idxOf]
theorem idx_of {n : Nat} {σ : LIS} (h : Pm n σ) {j k : Nat} (hj : σ[k]? = some (j : Int)) : σ.idxOf (j : Int) = k := by
  have hjn : j < n := by
    obtain ⟨k', hk, e⟩ := pm_mem h hj
    omega
  exact pm_inj h (idx_get h hjn) hj
theorem idx_lt {n : Nat} {σ : LIS} (h : Pm n σ) {j : Nat} (hj : j < n) : σ.idxOf (j : Int) < n := by
  have := List.idxOf_lt_length_iff.2 (pm_has h hj)
  rwa [pm_len h] at this
theorem pm_get {n : Nat} {σ : LIS} (h : Pm n σ) {k : Nat} (hk : k < n) : ∃ j : Nat, j < n ∧ σ[k]? = some (j : Int) := by
  have hl := pm_len h
  have hx : σ[k]? = some σ[k] := List.getElem?_eq_getElem (by omega)
  obtain ⟨j, hj, e⟩ := pm_mem h hx
  exact ⟨j, hj, by rw [hx, e]⟩

theorem nodup_of_inj {l : LIS} (h : ∀ (i j : Nat) (x : Int), l[i]? = some x → l[j]? = some x → i = j) : l.Nodup := by
  rw [List.Nodup, List.pairwise_iff_getElem]
  intro i j hi hj hij e
  have := h i j l[i] (List.getElem?_eq_getElem hi) (by rw [List.getElem?_eq_getElem hj, e])
  omega
theorem inv_pm {n : Nat} {σ : LIS} (h : Pm n σ) : Pm n (inv n σ) := by
  have hnd : (inv n σ).Nodup := by
    refine nodup_of_inj fun i j x hi hj => ?_
    have hi' : i < n := by have := (List.getElem?_eq_some_iff.1 hi).1; rwa [inv_len] at this
    have hj' : j < n := by have := (List.getElem?_eq_some_iff.1 hj).1; rwa [inv_len] at this
    rw [inv_get σ hi'] at hi
    rw [inv_get σ hj'] at hj
    have e : σ.idxOf (i : Int) = σ.idxOf (j : Int) := by
      have e := (Option.some.inj hi).trans (Option.some.inj hj).symm
      omega
    have g1 := idx_get h hi'
    have g2 := idx_get h hj'
    rw [e, g2] at g1
    have := Option.some.inj g1
    omega
  rw [Pm, List.perm_ext_iff_of_nodup hnd (rng_nodup n)]
  intro a
  constructor
  · intro ha
    obtain ⟨i, hi⟩ := List.getElem?_of_mem ha
    have hi' : i < n := by have := (List.getElem?_eq_some_iff.1 hi).1; rwa [inv_len] at this
    rw [inv_get σ hi'] at hi
    rw [← Option.some.inj hi]
    exact List.mem_of_getElem? (rng_get (idx_lt h hi'))
  · intro ha
    obtain ⟨k, hk, rfl⟩ := mem_rng ha
    obtain ⟨j, hj, e⟩ := pm_get h hk
    have := inv_get σ hj
    rw [idx_of h e] at this
    exact List.mem_of_getElem? this
theorem inv_inv {n : Nat} {σ : LIS} (h : Pm n σ) : inv n (inv n σ) = σ := by
  apply List.ext_getElem?
  intro k
  by_cases hk : k < n
  · obtain ⟨j, hj, e⟩ := pm_get h hk
    rw [inv_get _ hk, e]
    have e2 := inv_get σ hj
    rw [idx_of h e] at e2
    rw [idx_of (inv_pm h) e2]
  · rw [List.getElem?_eq_none (by rw [inv_len]; omega), List.getElem?_eq_none (by rw [pm_len h]; omega)]
theorem thr_inv {n : Nat} {σ : LIS} (h : Pm n σ) : thr σ (inv n σ) = rng n := by
  apply List.ext_getElem?
  intro k
  by_cases hk : k < n
  · obtain ⟨j, hj, e⟩ := pm_get h hk
    rw [rng_get hk]
    simp only [thr, List.getElem?_map, e, Option.map_some, Int.toNat_natCast, inv_get σ hj, Option.getD_some, idx_of h e]
  · rw [List.getElem?_eq_none (by rw [thr_len, pm_len h]; omega), List.getElem?_eq_none (by rw [rng_len]; omega)]

/-! ### The pairs turned around -/
theorem tab_at {σ : LIS} {j : Nat} {x : Int} (h : σ[j]? = some x) : (tabW σ)[j]? = some (numV j, numV x) := by
  have hj : j < (tabW σ).length := by rw [tabF_len]; exact (List.getElem?_eq_some_iff.1 h).1
  have e : (tabW σ)[j]? = some (tabW σ)[j] := List.getElem?_eq_getElem hj
  obtain ⟨x', h1, h2⟩ := tabF_get σ 0 j _ e
  rw [h] at h1
  rw [e, h2, ← Option.some.inj h1, Nat.zero_add]
theorem tab_nodup (σ : LIS) : (tabW σ).Nodup := by
  refine List.Pairwise.imp ?_ (rise_tab σ 0).1
  rintro p q h rfl
  omega
theorem numV_inj {a b : Int} (h : numV a = numV b) : a = b := by
  unfold numV at h
  injection h
theorem swap_perm {n : Nat} {σ : LIS} (h : Pm n σ) : (tabW (inv n σ)).Perm ((tabW σ).map swW) := by
  have hnd : ((tabW σ).map swW).Nodup := by
    rw [List.Nodup, List.pairwise_map]
    refine List.Pairwise.imp ?_ (tab_nodup σ)
    intro p q hne e
    apply hne
    obtain ⟨a, b⟩ := p
    obtain ⟨c, d⟩ := q
    simp only [swW, Prod.mk.injEq] at e ⊢
    exact ⟨e.2, e.1⟩
  rw [List.perm_ext_iff_of_nodup (tab_nodup _) hnd]
  intro p
  constructor
  · intro hp
    obtain ⟨j, hj⟩ := List.getElem?_of_mem hp
    obtain ⟨x, h1, rfl⟩ := tabF_get _ _ _ _ hj
    have hjn : j < n := by have := (List.getElem?_eq_some_iff.1 h1).1; rwa [inv_len] at this
    rw [inv_get σ hjn] at h1
    have h2 := tab_at (idx_get h hjn)
    rw [← Option.some.inj h1, Nat.zero_add]
    exact List.mem_map.2 ⟨_, List.mem_of_getElem? h2, rfl⟩
  · intro hp
    obtain ⟨q, hq, rfl⟩ := List.mem_map.1 hp
    obtain ⟨k, hk⟩ := List.getElem?_of_mem hq
    obtain ⟨x, h1, rfl⟩ := tabF_get _ _ _ _ hk
    obtain ⟨j, hj, rfl⟩ := pm_mem h h1
    have h2 := tab_at (inv_get σ hj)
    rw [idx_of h h1] at h2
    simp only [swW, Nat.zero_add]
    exact List.mem_of_getElem? h2
theorem swap_sorted {n : Nat} {σ : LIS} (h : Pm n σ) {l' : WL} (h1 : l'.Perm ((tabW σ).map swW)) (h2 : SortedK kyN l') : l' = tabW (inv n σ) :=
  uniqK kyN _ _ (rise_tab _ 0).1 (h1.trans (swap_perm h).symm) h2
theorem ky_swap (σ : LIS) : ∀ p ∈ (tabW σ).map swW, ∀ q ∈ (tabW σ).map swW, decide (cmpV p.1 q.1 < 0) = decide (kyN p < kyN q) := by
  intro p hp q hq
  obtain ⟨p', hp', rfl⟩ := List.mem_map.1 hp
  obtain ⟨q', hq', rfl⟩ := List.mem_map.1 hq
  obtain ⟨j, hj⟩ := List.getElem?_of_mem hp'
  obtain ⟨x, h1, rfl⟩ := tabF_get _ _ _ _ hj
  obtain ⟨j', hj'⟩ := List.getElem?_of_mem hq'
  obtain ⟨x', h1', rfl⟩ := tabF_get _ _ _ _ hj'
  show decide (cmpV (numV x) (numV x') < 0) = decide (x < x')
  rw [cmp_num, cmpI_lt]

/-! ### Found on either side -/
theorem idx_tab {n : Nat} {σ : LIS} (h : Pm n σ) {j : Nat} (hj : j < n) : ∃ x : Nat, x < n ∧ σ[j]? = some (x : Int) ∧ idxP 0 (numV j) (tabW σ) 0 = (j : Int) := by
  obtain ⟨x, hx, e⟩ := pm_get h hj
  refine ⟨x, hx, e, ?_⟩
  have hf := fnd_tab j σ 0
  rw [e] at hf
  rcases idx_fnd (numV ((0 + j : Nat) : Int)) (tabW σ) 0 with ⟨_, h2⟩ | ⟨k, p, h1, h2, h3⟩
  · rw [hf] at h2; cases h2
  · obtain ⟨y, h4, rfl⟩ := tabF_get _ _ _ _ h2
    rw [hf] at h3
    have : (x : Int) = y := numV_inj (Option.some.inj h3)
    subst this
    have hkj := pm_inj h h4 e
    rw [Nat.zero_add] at h1
    have h1 : idxP 0 (numV (j : Int)) (tabW σ) ((0 : Nat) : Int) = ((0 + k : Nat) : Int) := h1
    rw [Nat.zero_add, hkj] at h1
    exact h1

theorem idxP1_tab : ∀ (σ : LIS) (i : Nat) (x : Int) (b : Int), x ∈ σ → idxP 1 (numV x) (tabF i σ) b = b + (σ.idxOf x : Nat)
  | [], i, x, b, h => by cases h
  | y :: σ, i, x, b, h => by
    rw [tabF, idxP, show prj 1 (numV (i : Int), numV y) = numV y from rfl, cmp_num]
    by_cases e : y = x
    · subst e
      rw [decide_eq_true ((cmpI_eq0 _ _).2 rfl)]
      simp
    · rw [decide_eq_false (fun h => e ((cmpI_eq0 _ _).1 h))]
      have hm : x ∈ σ := by
        rcases List.mem_cons.1 h with rfl | h
        · exact absurd rfl e
        · exact h
      have ih := idxP1_tab σ (i + 1) x (b + 1) hm
      have e2 : (y == x) = false := by simpa using e
      rw [List.idxOf_cons, e2]
      simp only [cond_false]
      rw [ih]
      omega
end Go.Clap
