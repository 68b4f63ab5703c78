/- The plain law of alignments by a key: what is kept, lost and turned around. -/
import Derived.Test.YtnielhfaioakkaaGreatClapV14
import Derived.Test.YtnielhfaioakkaaGreatClapP1
set_option linter.unusedVariables false
set_option linter.unusedSimpArgs false
namespace Go.Clap

/-- Rising on the right; different on the left. -/
def RiseR (l : PL) : Prop := l.Pairwise fun p q => p.2 < q.2
def DiffL (l : PL) : Prop := l.Pairwise fun p q => p.1 ≠ q.1

theorem findI_free (ky : ByteArray × V → V) (x : V) : ∀ (us : List Bool) (fs : FL) (i j : Nat), findI ky x us fs i = some j → us[j - i]? = some false ∧ j - i < fs.length
  | u :: us, f :: fs, i, j, h => by
    have hlt := findI_lt ky x (u :: us) (f :: fs) i j h
    rw [findI] at h
    cases hc : (!u && decide (cmpV x (ky f) = 0)) with
    | true =>
      rw [hc] at h
      simp at h
      subst h
      simp at hc
      simp [hc.1]
    | false =>
      rw [hc] at h
      have h1 := findI_free ky x us fs (i + 1) j h
      have h2 := findI_lt ky x us fs (i + 1) j h
      obtain ⟨d, hd⟩ : ∃ d, j - i = d + 1 := ⟨j - i - 1, by omega⟩
      have hd2 : j - (i + 1) = d := by omega
      rw [hd2] at h1
      rw [hd]
      simpa using h1
  | [], _, _, _, h => by simp [findI] at h
  | _ :: _, [], _, _, h => by simp [findI] at h

theorem byK_all (ky : ByteArray × V → V) (A : FL) : ∀ (gs : FL) (us : List Bool) (k : Nat), us.length = A.length →
    (∀ p ∈ byK ky A us gs k, (∃ a : Nat, p.1 = a ∧ a < A.length ∧ us[a]? = some false) ∧ (k : Int) ≤ p.2 ∧ p.2 < k + gs.length) ∧ RiseR (byK ky A us gs k) ∧ DiffL (byK ky A us gs k) ∧ (byK ky A us gs k).length ≤ gs.length
  | [], us, k, _ => by
    rw [byK]
    exact ⟨fun p hp => (by cases hp), .nil, .nil, by simp⟩
  | g :: gs, us, k, hl => by
    rw [byK]
    simp only [List.length_cons]
    split
    · rename_i i hf
      obtain ⟨h1, h2⟩ := findI_free ky _ us A 0 i hf
      rw [Nat.sub_zero] at h1 h2
      obtain ⟨q1, q2, q3, q4⟩ := byK_all ky A gs (us.set i true) (k + 1) (by simpa using hl)
      have hfree : ∀ p ∈ byK ky A (us.set i true) gs (k + 1), ∃ a : Nat, p.1 = a ∧ a < A.length ∧ us[a]? = some false ∧ a ≠ i := by
        intro p hp
        obtain ⟨⟨a, ha, hb, hc⟩, _⟩ := q1 p hp
        have hne : a ≠ i := by
          rintro rfl
          rw [List.getElem?_set_self (by omega)] at hc
          cases hc
        rw [List.getElem?_set_ne (Ne.symm hne)] at hc
        exact ⟨a, ha, hb, hc, hne⟩
      refine ⟨fun p hp => ?_, .cons (fun q hq => ?_) q2, .cons (fun q hq => ?_) q3, by simp; omega⟩
      · rcases List.mem_cons.1 hp with rfl | hp
        · exact ⟨⟨i, rfl, h2, h1⟩, by simp only; omega⟩
        · obtain ⟨a, ha, hb, hc, _⟩ := hfree p hp
          have := (q1 p hp).2
          exact ⟨⟨a, ha, hb, hc⟩, by omega⟩
      · have := (q1 q hq).2
        simp only
        omega
      · obtain ⟨a, ha, hb, hc, hne⟩ := hfree q hq
        simp only
        omega
    · obtain ⟨q1, q2, q3, q4⟩ := byK_all ky A gs us (k + 1) hl
      exact ⟨fun p hp => ⟨(q1 p hp).1, by have := (q1 p hp).2; omega⟩, q2, q3, by omega⟩

/-! ### What is kept and lost -/
theorem fromL_other : ∀ (l : PL) (fr : LIS) (j : Nat), (∀ p ∈ l, p.2.toNat ≠ j) → (fromL fr l)[j]? = fr[j]?
  | [], fr, j, _ => rfl
  | p :: l, fr, j, h => by
    rw [fromL, fromL_other l _ j fun q hq => h q (List.mem_cons_of_mem _ hq), List.getElem?_set_ne (h p (List.mem_cons_self ..))]
theorem fromL_get : ∀ (l : PL) (fr : LIS), RiseR l → (∀ p ∈ l, 0 ≤ p.2 ∧ p.2 < fr.length) → ∀ p ∈ l, (fromL fr l)[p.2.toNat]? = some p.1
  | [], _, _, _, p, hp => by cases hp
  | q :: l, fr, hr, hin, p, hp => by
    cases hr with
    | cons h1 h2 =>
      have hq := hin q (List.mem_cons_self ..)
      rw [fromL]
      rcases List.mem_cons.1 hp with rfl | hp
      · rw [fromL_other l _ _ (fun z hz => by have := h1 z hz; have := hin z (List.mem_cons_of_mem _ hz); omega), List.getElem?_set_self (by omega)]
      · exact fromL_get l _ h2 (fun z hz => by have := hin z (List.mem_cons_of_mem _ hz); simpa using this) p hp

theorem lostL_count : ∀ (us : List Bool) (i : Nat), (lostL us i).length = us.count false
  | [], _ => rfl
  | u :: us, i => by
    rw [lostL, List.count_cons, ← lostL_count us (i + 1)]
    cases u <;> simp
theorem count_set : ∀ (us : List Bool) (i : Nat), us[i]? = some false → (us.set i true).count false + 1 = us.count false
  | [], i, h => by simp at h
  | u :: us, 0, h => by
    simp at h
    subst h
    simp [List.count_cons]
  | u :: us, i + 1, h => by
    simp at h
    have := count_set us i h
    rw [List.set_cons_succ, List.count_cons, List.count_cons]
    omega
theorem usedL_count : ∀ (l : PL) (us : List Bool), DiffL l → (∀ p ∈ l, ∃ a : Nat, p.1 = a ∧ us[a]? = some false) → (usedL us l).count false + l.length = us.count false
  | [], us, _, _ => by simp [usedL]
  | p :: l, us, hd, h => by
    cases hd with
    | cons h1 h2 =>
      obtain ⟨a, ha, hu⟩ := h p (List.mem_cons_self ..)
      have e : p.1.toNat = a := by omega
      rw [usedL, e]
      have := usedL_count l (us.set a true) h2 fun q hq => by
        obtain ⟨b, hb, hv⟩ := h q (List.mem_cons_of_mem _ hq)
        have hne : a ≠ b := by have := h1 q hq; omega
        exact ⟨b, hb, by rw [List.getElem?_set_ne hne]; exact hv⟩
      have h3 := count_set us a hu
      simp only [List.length_cons]
      omega

/-! ### Turned around -/
theorem sorted_uniq : ∀ (l i2 : PL), RiseR l → i2.Perm l → SortedP i2 → i2 = l
  | [], i2, _, hp, _ => hp.eq_nil
  | a :: l, i2, hr, hp, hs => by
    cases hr with
    | cons h1 h2 =>
      cases i2 with
      | nil => have := hp.length_eq; simp at this
      | cons b t =>
        cases hs with
        | cons h3 h4 =>
          have hb : b ∈ a :: l := hp.subset (List.mem_cons_self ..)
          have ha : a ∈ b :: t := hp.symm.subset (List.mem_cons_self ..)
          have hba : b = a := by
            rcases List.mem_cons.1 hb with h | hb
            · exact h
            · rcases List.mem_cons.1 ha with h | ha
              · exact h.symm
              · have := h1 b hb
                have := h3 a ha
                omega
          subst hba
          rw [sorted_uniq l t h2 hp.cons_inv h4]

theorem findP_mem : ∀ (l : PL) (z : Int), RiseR l → ∀ p ∈ l, findP (p.2, z) l = some (p.1, z)
  | [], _, _, p, hp => by cases hp
  | q :: l, z, hr, p, hp => by
    cases hr with
    | cons h1 h2 =>
      rw [findP]
      rcases List.mem_cons.1 hp with rfl | hp
      · simp
      · have : (q.2 == p.2) = false := by
          have := h1 p hp
          simp
          omega
        simp only [this]
        exact findP_mem l z h2 p hp

theorem compL_map (l : PL) (hr : RiseR l) : ∀ i3 : PL, (∀ q ∈ i3, ∃ p ∈ l, q = sw p) → compL l i3 = i3.map fun q => (q.2, q.2)
  | [], _ => rfl
  | q :: r, h => by
    obtain ⟨p, hp, rfl⟩ := h q (List.mem_cons_self ..)
    have e : findP (sw p) l = some (p.1, p.1) := findP_mem l p.1 hr p hp
    rw [compL, e, compL_map l hr r fun q hq => h q (List.mem_cons_of_mem _ hq)]
    rfl

theorem turned_ok {l : PL} (hr : RiseR l) (hd : DiffL l) : ∀ i1 : PL, i1.Perm (l.map sw) → SortedP i1 → (∀ i2 : PL, i2.Perm (i1.map sw) → SortedP i2 → i2 = l) ∧ (compL l i1).length = l.length ∧ (∀ p ∈ compL l i1, p.1 = p.2) ∧
    (∀ (i : Nat) p q, (compL l i1)[i]? = some p → (compL l i1)[i + 1]? = some q → p.1 < q.1) := by
  intro i1 hp hs
  have hc := compL_map l hr i1 fun q hq => by
    obtain ⟨p, h1, h2⟩ := List.mem_map.1 (hp.subset hq)
    exact ⟨p, h1, h2.symm⟩
  have hsw : (l.map sw).map sw = l := by
    rw [List.map_map]
    have : (sw ∘ sw) = id := by funext p; rfl
    rw [this, List.map_id]
  have hdiff : i1.Pairwise fun p q => p.2 ≠ q.2 := by
    have h1 : (l.map sw).Pairwise fun p q => p.2 ≠ q.2 := by
      rw [List.pairwise_map]
      exact hd
    exact h1.perm hp.symm fun h => Ne.symm h
  have hlt : i1.Pairwise fun p q => p.2 < q.2 := by
    have := List.Pairwise.and hs hdiff
    exact this.imp fun h => by omega
  refine ⟨fun i2 hp2 hs2 => sorted_uniq l i2 hr (hp2.trans (by have := hp.map sw; rwa [hsw] at this)) hs2, ?_, ?_, ?_⟩
  · rw [hc, List.length_map, hp.length_eq, List.length_map]
  · rw [hc]
    intro p hp
    obtain ⟨q, _, rfl⟩ := List.mem_map.1 hp
    rfl
  · rw [hc]
    intro i p q h1 h2
    rw [List.getElem?_map, Option.map_eq_some_iff] at h1 h2
    obtain ⟨p', h1, rfl⟩ := h1
    obtain ⟨q', h2, rfl⟩ := h2
    obtain ⟨a1, a2⟩ := List.getElem?_eq_some_iff.1 h1
    obtain ⟨b1, b2⟩ := List.getElem?_eq_some_iff.1 h2
    have := List.pairwise_iff_getElem.1 hlt i (i + 1) a1 b1 (by omega)
    rw [a2, b2] at this
    exact this

/-- Pairs that differ on both sides pass the check. -/
theorem chkAcc_diff (n m : Int) : ∀ (l : PL) (L Rr : List Bool), RiseR l → DiffL l → (∀ p ∈ l, (0 ≤ p.1 ∧ p.1 < n) ∧ (0 ≤ p.2 ∧ p.2 < m)) → (∀ p ∈ l, L.getD p.1.toNat false = false ∧ Rr.getD p.2.toNat false = false) →
    chkAcc n m L Rr l = 0
  | [], L, Rr, _, _, _, _ => by rw [chkAcc]
  | p :: l, L, Rr, hr, hd, hin, hf => by
    cases hr with
    | cons hlt hr =>
      cases hd with
      | cons hne hd =>
        have h1 := hin p (List.mem_cons_self ..)
        have h2 := hf p (List.mem_cons_self ..)
        have e1 : decide (p.1 < 0) = false := decide_eq_false (by omega)
        have e2 : decide (p.1 ≥ n) = false := decide_eq_false (by omega)
        have e3 : decide (p.2 < 0) = false := decide_eq_false (by omega)
        have e4 : decide (p.2 ≥ m) = false := decide_eq_false (by omega)
        rw [chkAcc, e1, e2, e3, e4, h2.1, h2.2]
        refine chkAcc_diff n m l _ _ hr hd (fun q hq => hin q (List.mem_cons_of_mem _ hq)) fun q hq => ?_
        have h3 := hf q (List.mem_cons_of_mem _ hq)
        have h4 := hlt q hq
        have h5 := hne q hq
        have h6 := hin q (List.mem_cons_of_mem _ hq)
        rw [getD_set _ _ _ (by omega), getD_set _ _ _ (by omega)]
        exact h3

/-! ### The key of the makers' elements -/
abbrev nmA : ByteArray := ⟨#[97]⟩
def kyE (f : ByteArray × V) : V := (getF f.2.kind nmA f.2.fs).getD zeroV
theorem key_eN {i : Nat} (hi : i < 9) : (eN i).kind = 6 ∧ (getF (eN i).kind nmA (eN i).fs).isSome = true :=
  fin9' (p := fun i => (eN i).kind = 6 ∧ (getF (eN i).kind nmA (eN i).fs).isSome = true) (by decide +kernel) hi
theorem small_num (n : Int) : smallV (numV n) := by
  rw [numV, smallV]
  exact ⟨by simp, trivial⟩
theorem small_eN (i : Nat) : ∀ x ∈ (eN i).fs, smallV x.2 := by
  intro x hx
  simp only [eN, recV, V.fs, List.mem_cons, List.not_mem_nil, or_false] at hx
  rcases hx with rfl | rfl
  · exact small_num _
  · exact small_num _
theorem get_el {f : ByteArray × V} {l : FL} (h : El l) (hf : f ∈ l) : f.2.kind = 6 ∧ getD f.2 nmA = .tup [vD (kyE f), bD true] := by
  obtain ⟨i, hi, rfl⟩ := h f hf
  obtain ⟨h1, h2⟩ := key_eN hi
  refine ⟨h1, ?_⟩
  obtain ⟨w, hw⟩ := Option.isSome_iff_exists.1 h2
  simp only [getD, kyE, hw, Option.getD_some]

end Go.Clap
