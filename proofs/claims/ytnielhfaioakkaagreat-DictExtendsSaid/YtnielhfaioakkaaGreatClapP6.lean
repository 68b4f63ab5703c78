/- The plain law of part of a table: completed, merged, compared. -/
import Derived.Test.YtnielhfaioakkaaGreatClapV31
import Derived.Test.YtnielhfaioakkaaGreatClapP4
set_option linter.unusedVariables false
set_option linter.unusedSimpArgs false
namespace Go.Clap

def frm (m : Nat) : Nat → LIS
  | 0 => []
  | k + 1 => (m : Int) :: frm (m + 1) k
theorem frm_snoc : ∀ (k m : Nat), frm m (k + 1) = frm m k ++ [((m + k : Nat) : Int)]
  | 0, m => rfl
  | k + 1, m => by
    rw [frm, frm_snoc k (m + 1), frm, List.cons_append, show m + 1 + k = m + (k + 1) by omega]
theorem frm_len : ∀ (k m : Nat), (frm m k).length = k
  | 0, m => rfl
  | k + 1, m => by rw [frm, List.length_cons, frm_len k]
theorem tab_prs : ∀ (b : LIS) (m : Nat), prs (frm m b.length) b = tabF m b
  | [], m => rfl
  | x :: b, m => by
    have := tab_prs b (m + 1)
    simp only [List.length_cons, frm, prs, List.zip_cons_cons, List.map_cons, tabF] at this ⊢
    rw [this]
theorem tab_append : ∀ (a b : LIS) (i : Nat), tabF i (a ++ b) = tabF i a ++ tabF (i + a.length) b
  | [], b, i => rfl
  | x :: a, b, i => by
    simp only [List.cons_append, tabF, tab_append a b (i + 1), List.length_cons]
    rw [show i + 1 + a.length = i + (a.length + 1) by omega]
theorem tab_take : ∀ (m : Nat) (a : LIS) (i : Nat), (tabF i a).take m = tabF i (a.take m)
  | 0, a, i => by simp [tabF]
  | m + 1, [], i => by simp [tabF]
  | m + 1, x :: a, i => by simp only [tabF, List.take_succ_cons, tab_take m a (i + 1)]

theorem idx0_in : ∀ (δ : LIS) (i j : Nat) (b : Int), j < δ.length → idxP 0 (numV ((i + j : Nat) : Int)) (tabF i δ) b = b + j
  | [], i, j, b, h => by simp at h
  | y :: δ, i, j, b, h => by
    rw [tabF, idxP, show prj 0 (numV (i : Int), numV y) = numV i from rfl, cmp_num]
    cases j with
    | zero =>
      rw [decide_eq_true ((cmpI_eq0 _ _).2 (by omega))]
      simp
    | succ j =>
      rw [decide_eq_false (fun h => by have := (cmpI_eq0 _ _).1 h; omega)]
      have := idx0_in δ (i + 1) j (b + 1) (by simpa using h)
      rw [show i + 1 + j = i + (j + 1) by omega] at this
      simp only [cond_false, this]
      omega
theorem idx0_out : ∀ (δ : LIS) (i j : Nat) (b : Int), δ.length ≤ j → idxP 0 (numV ((i + j : Nat) : Int)) (tabF i δ) b = -1
  | [], i, j, b, h => rfl
  | y :: δ, i, j, b, h => by
    rw [tabF, idxP, show prj 0 (numV (i : Int), numV y) = numV i from rfl, cmp_num]
    simp only [List.length_cons] at h
    rw [decide_eq_false (fun h => by have := (cmpI_eq0 _ _).1 h; omega)]
    have := idx0_out δ (i + 1) (j - 1) (b + 1) (by omega)
    rw [show i + 1 + (j - 1) = i + j by omega] at this
    simp only [cond_false, this]
theorem idx1_out : ∀ (σ : LIS) (i : Nat) (x : Int) (b : Int), x ∉ σ → idxP 1 (numV x) (tabF i σ) b = -1
  | [], i, x, b, h => rfl
  | y :: σ, i, x, b, h => by
    rw [tabF, idxP, show prj 1 (numV (i : Int), numV y) = numV y from rfl, cmp_num]
    simp only [List.mem_cons, not_or] at h
    rw [decide_eq_false (fun e => h.1 ((cmpI_eq0 _ _).1 e).symm)]
    simp only [cond_false, idx1_out σ (i + 1) x (b + 1) h.2]

theorem lf0_tab (δ : LIS) : ∀ i : Nat, lf 0 (tabW δ) i = frm δ.length (i - δ.length)
  | 0 => by rw [Nat.zero_sub]; rfl
  | i + 1 => by
    rw [lf_succ, lf0_tab δ i]
    by_cases h : i < δ.length
    · have := idx0_in δ 0 i 0 h
      rw [Nat.zero_add] at this
      rw [this, decide_eq_false (by omega), show i - δ.length = 0 by omega, show i + 1 - δ.length = 0 by omega]
      rfl
    · have := idx0_out δ 0 i 0 (by omega)
      rw [Nat.zero_add] at this
      rw [this, decide_eq_true (by omega), show i + 1 - δ.length = (i - δ.length) + 1 by omega, frm_snoc, show δ.length + (i - δ.length) = i by omega]
      rfl
def cpl (n m : Nat) (σ : LIS) : LIS := σ.take m ++ lf 1 (tabW (σ.take m)) n
theorem mem_lf1 (δ : LIS) (n : Nat) (x : Int) : x ∈ lf 1 (tabW δ) n ↔ x ∈ rng n ∧ x ∉ δ := by
  rw [lf, List.mem_filter]
  refine and_congr_right fun hx => ?_
  by_cases h : x ∈ δ
  · rw [idxP1_tab δ 0 x 0 h, decide_eq_false (by omega)]
    simp [h]
  · rw [idx1_out δ 0 x 0 h]
    simp [h]
theorem cpl_pm {n m : Nat} {σ : LIS} (h : Pm n σ) : Pm n (cpl n m σ) := by
  have hnd := pm_nodup h
  have h1 : (σ.take m).Nodup := hnd.sublist (List.take_sublist m σ)
  have h2 : (lf 1 (tabW (σ.take m)) n).Nodup := (rng_nodup n).sublist List.filter_sublist
  have h3 : (cpl n m σ).Nodup := by
    rw [cpl, List.nodup_append]
    refine ⟨h1, h2, fun a ha b hb e => ?_⟩
    subst e
    exact ((mem_lf1 _ _ _).1 hb).2 ha
  rw [Pm, List.perm_ext_iff_of_nodup h3 (rng_nodup n)]
  intro a
  rw [cpl, List.mem_append, mem_lf1]
  constructor
  · rintro (ha | ha)
    · exact h.subset (List.mem_of_mem_take ha)
    · exact ha.1
  · intro ha
    by_cases h4 : a ∈ σ.take m
    · exact .inl h4
    · exact .inr ⟨ha, h4⟩
theorem cpl_len {n m : Nat} {σ : LIS} (h : Pm n σ) (hm : m ≤ n) : (σ.take m).length = m ∧ (lf 1 (tabW (σ.take m)) n).length = n - m := by
  have h1 : (σ.take m).length = m := by rw [List.length_take, pm_len h]; omega
  have h2 := pm_len (cpl_pm (m := m) h)
  rw [cpl, List.length_append, h1] at h2
  exact ⟨h1, by omega⟩
theorem cpl_tab {n m : Nat} {σ : LIS} (h : Pm n σ) (hm : m ≤ n) : tabW (σ.take m) ++ prs (lf 0 (tabW (σ.take m)) n) (lf 1 (tabW (σ.take m)) n) = tabW (cpl n m σ) := by
  obtain ⟨h1, h2⟩ := cpl_len h hm
  have e := tab_append (σ.take m) (lf 1 (tabW (σ.take m)) n) 0
  rw [Nat.zero_add, h1] at e
  rw [lf0_tab, h1, ← h2, tab_prs]
  exact e.symm
theorem vp_take {ps : WL} (h : VP ps) {m : Nat} (hm : 1 ≤ m) : VP (ps.take m) := by
  have hpos := h.pos
  have hlen := h.len
  refine ⟨by rw [List.length_take]; omega, by rw [List.length_take]; omega, fun p hp => h.ok p (List.mem_of_mem_take hp), fun p hp => h.plain p (List.mem_of_mem_take hp),
    fun p hp q hq => h.kinds p (List.mem_of_mem_take hp) q (List.mem_of_mem_take hq), fun i j p q hij hp hq => ?_⟩
  rw [List.getElem?_take] at hp hq
  split at hp
  · split at hq
    · exact h.diff i j p q hij hp hq
    · cases hq
  · cases hp

/-- What stands in the part and in the whole. -/
theorem part_in {n m : Nat} {σ : LIS} (h : Pm n σ) (hm : m ≤ n) {j : Nat} {x : Int} (hx : (σ.take m)[j]? = some x) :
    (cpl n m σ)[j]? = some x ∧ idxP 0 (numV (j : Int)) (tabW (cpl n m σ)) 0 = (j : Int) ∧ idxP 1 (numV x) (tabW (cpl n m σ)) 0 = (j : Int) ∧
      idxP 0 (numV (j : Int)) (tabW (σ.take m)) 0 = (j : Int) ∧ idxP 1 (numV x) (tabW (σ.take m)) 0 = (j : Int) := by
  have hjl := (List.getElem?_eq_some_iff.1 hx).1
  have hc : (cpl n m σ)[j]? = some x := by rw [cpl, List.getElem?_append_left hjl]; exact hx
  have hp := cpl_pm (m := m) h
  obtain ⟨k, hk, rfl⟩ := pm_mem hp hc
  have hi := idx_of hp hc
  have hmem := List.mem_of_getElem? hx
  have hj2 := (List.getElem?_eq_some_iff.1 hc).1
  have e1 := idx0_in (cpl n m σ) 0 j 0 hj2
  have e2 := idx0_in (σ.take m) 0 j 0 hjl
  rw [Nat.zero_add] at e1 e2
  refine ⟨hc, by rw [e1]; omega, by rw [idxP1_tab _ 0 _ 0 (List.mem_of_getElem? hc), hi]; omega, by rw [e2]; omega, ?_⟩
  rw [idxP1_tab _ 0 _ 0 hmem]
  have : (cpl n m σ).idxOf (k : Int) = (σ.take m).idxOf (k : Int) := by rw [cpl, List.idxOf_append, if_pos hmem]
  rw [← this, hi]
  omega
theorem part_out {n m : Nat} {σ : LIS} (h : Pm n σ) (hm : m ≤ n) {j : Nat} {x : Int} (hx : (cpl n m σ)[j]? = some x) (hj : m ≤ j) :
    idxP 0 (numV (j : Int)) (tabW (σ.take m)) 0 = -1 ∧ idxP 1 (numV x) (tabW (σ.take m)) 0 = -1 := by
  obtain ⟨h1, h2⟩ := cpl_len h hm
  have e := idx0_out (σ.take m) 0 j 0 (by omega)
  rw [Nat.zero_add] at e
  refine ⟨e, idx1_out _ 0 _ 0 ?_⟩
  rw [cpl, List.getElem?_append_right (by omega)] at hx
  exact ((mem_lf1 _ _ _).1 (List.mem_of_getElem? hx)).2
end Go.Clap
