/- The plain law of cycles: walking a table until what was seen, from every place. -/
import Derived.Test.YtnielhfaioakkaaGreatClapP4
set_option linter.unusedVariables false
set_option linter.unusedSimpArgs false
namespace Go.Clap

abbrev BL := List Bool
def cf (c : BL) : Nat := c.count false
def Mk (c : BL) (j : Nat) : Prop := c[j]? = some true
def wlk (s : Nat → Nat) : Nat → BL → Nat → Nat → BL × Nat
  | 0, c, _, m => (c, m)
  | f + 1, c, k, m => match c[k]? with
    | some false => wlk s f (c.set k true) (s k) (m + 1)
    | _ => (c, m)
def outr (s : Nat → Nat) : Nat → Nat → BL → List Nat → List Nat
  | 0, _, _, out => out
  | r + 1, i, c, out => outr s r (i + 1) (wlk s (cf c) c i 0).1 (cond (decide (0 < (wlk s (cf c) c i 0).2)) (out ++ [(wlk s (cf c) c i 0).2]) out)
def raws (s : Nat → Nat) (n : Nat) : List Nat := outr s n 0 (List.replicate n false) []

theorem cf_set : ∀ (c : BL) (k : Nat), c[k]? = some false → cf (c.set k true) + 1 = cf c
  | [], k, h => by simp at h
  | b :: c, 0, h => by
    simp at h
    subst h
    simp [cf]
  | b :: c, k + 1, h => by
    have := cf_set c k (by simpa using h)
    simp only [cf, List.set_cons_succ, List.count_cons] at this ⊢
    omega
theorem cf_pos {c : BL} {k : Nat} (h : c[k]? = some false) : 0 < cf c := by
  have := cf_set c k h
  omega
theorem mk_set {c : BL} {k j : Nat} (hk : k < c.length) : Mk (c.set k true) j ↔ j = k ∨ Mk c j := by
  unfold Mk
  by_cases h : j = k
  · subst h
    simp [List.getElem?_set_self hk]
  · rw [List.getElem?_set_ne (Ne.symm h)]
    simp [h]
theorem mk_not {c : BL} {k : Nat} (h : c[k]? = some false) : ¬ Mk c k := by
  unfold Mk
  rw [h]
  simp

theorem wlk_len (s : Nat → Nat) : ∀ (f : Nat) (c : BL) (k m : Nat), (wlk s f c k m).1.length = c.length
  | 0, c, k, m => rfl
  | f + 1, c, k, m => by
    rw [wlk]
    split
    · rw [wlk_len s f]; simp
    · rfl
theorem wlk_count (s : Nat → Nat) : ∀ (f : Nat) (c : BL) (k m : Nat), cf (wlk s f c k m).1 + (wlk s f c k m).2 = cf c + m
  | 0, c, k, m => rfl
  | f + 1, c, k, m => by
    rw [wlk]
    split
    · rename_i h
      rw [wlk_count s f]
      have := cf_set c k h
      omega
    · rfl
theorem wlk_mono (s : Nat → Nat) {j : Nat} : ∀ (f : Nat) (c : BL) (k m : Nat), Mk c j → Mk (wlk s f c k m).1 j
  | 0, c, k, m, h => h
  | f + 1, c, k, m, h => by
    rw [wlk]
    split
    · rename_i hk
      have hkl := (List.getElem?_eq_some_iff.1 hk).1
      exact wlk_mono s f _ _ _ ((mk_set hkl).2 (.inr h))
    · exact h
theorem wlk_start (s : Nat → Nat) (c : BL) (k m : Nat) (hk : k < c.length) : Mk (wlk s (cf c) c k m).1 k := by
  cases hc : c[k]? with
  | none => rw [List.getElem?_eq_getElem hk] at hc; cases hc
  | some b =>
    cases b with
    | true => exact wlk_mono s _ c k m hc
    | false =>
      have hp := cf_pos hc
      obtain ⟨f, hf⟩ : ∃ f, cf c = f + 1 := ⟨cf c - 1, by omega⟩
      rw [hf, wlk, hc]
      exact wlk_mono s f _ _ _ ((mk_set hk).2 (.inl rfl))
theorem wlk_min (s : Nat → Nat) (n : Nat) (T : Nat → Prop) (hT : ∀ j, j < n → T j → T (s j)) :
    ∀ (f : Nat) (c : BL) (k m : Nat), c.length = n → (∀ j, Mk c j → T j) → T k → ∀ j, Mk (wlk s f c k m).1 j → T j
  | 0, c, k, m, hl, h, hk, j, hj => h j hj
  | f + 1, c, k, m, hl, h, hk, j, hj => by
    rw [wlk] at hj
    split at hj
    · rename_i hc
      have hkl := (List.getElem?_eq_some_iff.1 hc).1
      exact wlk_min s n T hT f _ _ _ (by simpa using hl) (fun j hj => by
        rcases (mk_set hkl).1 hj with rfl | hj
        · exact hk
        · exact h j hj) (hT k (by omega) hk) j hj
    · exact h j hj

/-- One to one on the first `n` places, turned around by `t`. -/
structure Both (s t : Nat → Nat) (n : Nat) : Prop where
  s1 : ∀ k, k < n → s k < n
  t1 : ∀ k, k < n → t k < n
  ts : ∀ k, k < n → t (s k) = k
  st : ∀ k, k < n → s (t k) = k
theorem Both.turn {s t : Nat → Nat} {n : Nat} (h : Both s t n) : Both t s n := ⟨h.t1, h.s1, h.st, h.ts⟩

def Clos (s : Nat → Nat) (n : Nat) (c : BL) : Prop := ∀ j, j < n → Mk c j → Mk c (s j)

theorem wlk_inv {s t : Nat → Nat} {n : Nat} (H : Both s t n) (i : Nat) :
    ∀ (f : Nat) (c : BL) (k m : Nat), c.length = n → f = cf c → k < n → (∀ j, j < n → Mk c j → j ≠ i → Mk c (t j)) → Mk c (t k) → (Mk c k → k = i) → (∀ j, j < n → Mk c j → Mk c (s j) ∨ s j = k) →
      Clos s n (wlk s f c k m).1 ∧ Clos t n (wlk s f c k m).1
  | f, c, k, m, hl, hf, hk, hA, hB, hC, hD => by
    have fin : Mk c k → Clos s n c ∧ Clos t n c := fun hm => by
      have e := hC hm
      subst e
      refine ⟨fun j hj hmj => ?_, fun j hj hmj => ?_⟩
      · rcases hD j hj hmj with h | h
        · exact h
        · rw [h]; exact hm
      · by_cases e : j = k
        · subst e; exact hB
        · exact hA j hj hmj e
    cases hc : c[k]? with
    | none => rw [List.getElem?_eq_getElem (by omega)] at hc; cases hc
    | some b =>
      cases b with
      | true =>
        cases f with
        | zero => exact fin hc
        | succ f => rw [wlk, hc]; exact fin hc
      | false =>
        have hnk := mk_not hc
        have hs := cf_set c k hc
        cases f with
        | zero => omega
        | succ f =>
          rw [wlk, hc]
          have hkl : k < c.length := by omega
          have hts := H.ts k hk
          refine wlk_inv H i f _ _ _ (by simpa using hl) (by omega) (H.s1 k hk) (fun j hj hm hne => ?_) ?_ (fun hm => ?_) (fun j hj hm => ?_)
          · rcases (mk_set hkl).1 hm with rfl | hm
            · exact (mk_set hkl).2 (.inr hB)
            · exact (mk_set hkl).2 (.inr (hA j hj hm hne))
          · rw [hts]
            exact (mk_set hkl).2 (.inl rfl)
          · rcases (mk_set hkl).1 hm with e | hm
            · rw [e] at hts
              rw [hts] at hB
              exact absurd hB hnk
            · by_cases e : s k = i
              · exact e
              · have := hA (s k) (H.s1 k hk) hm e
                rw [hts] at this
                exact absurd this hnk
          · rcases (mk_set hkl).1 hm with rfl | hm
            · exact .inr rfl
            · rcases hD j hj hm with h | h
              · exact .inl ((mk_set hkl).2 (.inr h))
              · exact .inl ((mk_set hkl).2 (.inl h))
theorem wlk_clos {s t : Nat → Nat} {n : Nat} (H : Both s t n) (i : Nat) (hi : i < n) (c : BL) (m : Nat) (hl : c.length = n) (h1 : Clos s n c) (h2 : Clos t n c) :
    Clos s n (wlk s (cf c) c i m).1 ∧ Clos t n (wlk s (cf c) c i m).1 := by
  cases hc : c[i]? with
  | none => rw [List.getElem?_eq_getElem (by omega)] at hc; cases hc
  | some b =>
    cases b with
    | true =>
      have e : wlk s (cf c) c i m = (c, m) := by
        cases cf c with
        | zero => rfl
        | succ f => rw [wlk, hc]
      rw [e]
      exact ⟨h1, h2⟩
    | false =>
      have hnk := mk_not hc
      have hs := cf_set c i hc
      obtain ⟨f, hf⟩ : ∃ f, cf c = f + 1 := ⟨cf c - 1, by omega⟩
      rw [hf, wlk, hc]
      have hkl : i < c.length := by omega
      have hts := H.ts i hi
      refine wlk_inv H i f _ _ _ (by simpa using hl) (by omega) (H.s1 i hi) (fun j hj hm hne => ?_) ?_ (fun hm => ?_) (fun j hj hm => ?_)
      · rcases (mk_set hkl).1 hm with e | hm
        · exact absurd e hne
        · exact (mk_set hkl).2 (.inr (h2 j hj hm))
      · rw [hts]
        exact (mk_set hkl).2 (.inl rfl)
      · rcases (mk_set hkl).1 hm with e | hm
        · exact e
        · have := h2 (s i) (H.s1 i hi) hm
          rw [hts] at this
          exact absurd this hnk
      · rcases (mk_set hkl).1 hm with rfl | hm
        · exact .inr rfl
        · exact .inl ((mk_set hkl).2 (.inr (h1 j hj hm)))

theorem bl_ext {c d : BL} (hl : c.length = d.length) (h : ∀ j, Mk c j ↔ Mk d j) : c = d := by
  apply List.ext_getElem?
  intro j
  by_cases hj : j < c.length
  · have h1 : c[j]? = some c[j] := List.getElem?_eq_getElem hj
    have h2 : d[j]? = some (d[j]'(by omega)) := List.getElem?_eq_getElem (by omega)
    have := h j
    unfold Mk at this
    rw [h1, h2] at this ⊢
    simp only [Option.some.injEq] at this ⊢
    cases hc : c[j] <;> cases hd : d[j]'(by omega) <;> simp_all
  · rw [List.getElem?_eq_none (by omega), List.getElem?_eq_none (by omega)]
theorem wlk_same {s t : Nat → Nat} {n : Nat} (H : Both s t n) (i : Nat) (hi : i < n) (c : BL) (hl : c.length = n) (h1 : Clos s n c) (h2 : Clos t n c) :
    wlk s (cf c) c i 0 = wlk t (cf c) c i 0 := by
  obtain ⟨a1, a2⟩ := wlk_clos H i hi c 0 hl h1 h2
  obtain ⟨b1, b2⟩ := wlk_clos H.turn i hi c 0 hl h2 h1
  have e : (wlk s (cf c) c i 0).1 = (wlk t (cf c) c i 0).1 := by
    refine bl_ext (by rw [wlk_len, wlk_len]) fun j => ⟨fun h => ?_, fun h => ?_⟩
    · exact wlk_min s n (Mk (wlk t (cf c) c i 0).1) b2 (cf c) c i 0 hl (fun j hj => wlk_mono t _ c i 0 hj) (wlk_start t c i 0 (by omega)) j h
    · exact wlk_min t n (Mk (wlk s (cf c) c i 0).1) a2 (cf c) c i 0 hl (fun j hj => wlk_mono s _ c i 0 hj) (wlk_start s c i 0 (by omega)) j h
  have e1 := wlk_count s (cf c) c i 0
  have e2 := wlk_count t (cf c) c i 0
  rw [e] at e1
  exact Prod.ext e (by omega)
theorem outr_same {s t : Nat → Nat} {n : Nat} (H : Both s t n) : ∀ (r i : Nat) (c : BL) (out : List Nat), i + r = n → c.length = n → Clos s n c → Clos t n c → outr s r i c out = outr t r i c out
  | 0, i, c, out, _, _, _, _ => rfl
  | r + 1, i, c, out, hir, hl, h1, h2 => by
    have hi : i < n := by omega
    have e := wlk_same H i hi c hl h1 h2
    obtain ⟨a1, a2⟩ := wlk_clos H i hi c 0 hl h1 h2
    rw [outr, outr, ← e]
    exact outr_same H r (i + 1) _ _ (by omega) (by rw [wlk_len, hl]) a1 a2
theorem raws_same {s t : Nat → Nat} {n : Nat} (H : Both s t n) : raws s n = raws t n := by
  have h0 : ∀ j, ¬ Mk (List.replicate n false) j := fun j h => by
    unfold Mk at h
    rw [List.getElem?_replicate] at h
    split at h <;> simp at h
  exact outr_same H n 0 _ [] (by omega) (by simp) (fun j _ h => absurd h (h0 j)) (fun j _ h => absurd h (h0 j))

theorem outr_sum (s : Nat → Nat) (n : Nat) : ∀ (r i : Nat) (c : BL) (out : List Nat), i + r = n → c.length = n → (∀ j, j < i → Mk c j) → out.sum + cf c = n → (outr s r i c out).sum = n
  | 0, i, c, out, hir, hl, hm, hs => by
    have : cf c = 0 := by
      rw [cf, List.count_eq_zero]
      intro hf
      obtain ⟨j, hj⟩ := List.getElem?_of_mem hf
      have := hm j (by have := (List.getElem?_eq_some_iff.1 hj).1; omega)
      unfold Mk at this
      rw [hj] at this
      cases this
    rw [outr]
    omega
  | r + 1, i, c, out, hir, hl, hm, hs => by
    rw [outr]
    have hc := wlk_count s (cf c) c i 0
    refine outr_sum s n r (i + 1) _ _ (by omega) (by rw [wlk_len, hl]) (fun j hj => ?_) ?_
    · by_cases e : j = i
      · subst e
        exact wlk_start s c j 0 (by omega)
      · exact wlk_mono s _ c i 0 (hm j (by omega))
    · by_cases e : 0 < (wlk s (cf c) c i 0).2
      · rw [decide_eq_true e]
        simp only [cond_true, List.sum_append, List.sum_cons, List.sum_nil]
        omega
      · rw [decide_eq_false e]
        simp only [cond_false]
        omega
theorem raws_sum (s : Nat → Nat) (n : Nat) : (raws s n).sum = n :=
  outr_sum s n n 0 _ [] (by omega) (by simp) (fun j h => absurd h (by omega)) (by simp [cf])
theorem outr_len (s : Nat → Nat) : ∀ (r i : Nat) (c : BL) (out : List Nat), (outr s r i c out).length ≤ out.length + r
  | 0, i, c, out => Nat.le_refl _
  | r + 1, i, c, out => by
    rw [outr]
    refine Nat.le_trans (outr_len s r _ _ _) ?_
    cases decide (0 < (wlk s (cf c) c i 0).2) <;> simp <;> omega
theorem raws_len (s : Nat → Nat) (n : Nat) : (raws s n).length ≤ n := by
  have := outr_len s n 0 (List.replicate n false) []
  simpa [raws] using this
end Go.Clap
