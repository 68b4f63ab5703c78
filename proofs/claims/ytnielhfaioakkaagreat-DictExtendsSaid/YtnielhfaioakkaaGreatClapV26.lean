/- Contracts: a lookup turned around; what it leads to; DictInverse. -/
import Derived.Test.YtnielhfaioakkaaGreatClapI6
import Derived.Test.YtnielhfaioakkaaGreatClapP4
set_option linter.unusedVariables false
set_option linter.unusedSimpArgs false
namespace Go.Clap
variable {O : Oracle TT}

theorem vc309 (l : WL) (hl : l.length ≤ 12) (h46 : Gives O 46 [lD .two l] (iD 0)) (Q : WL → Prop)
    (h48 : ∀ R : RR, (∀ l' : WL, Q l' → R (lD .two l') []) → O 48 [lD .two (l.map swW)] [] R)
    (R : RR) (hR : ∀ l' : WL, Q l' → R (.tup [lD .two l', iD 0]) []) : vcF (S := SS) O ir309 [lD .two l] [] R := by
  refine ⟨Nat.le_of_ble_eq_true rfl, rfl, ?_⟩
  conv => whnf
  refine ⟨[], ?_⟩
  conv => whnf
  refine h46 _ ?_
  conv => whnf
  intro t ht
  obtain rfl : t = false := ht
  conv => whnf
  intro _
  conv => whnf
  refine ⟨fun σ n => ∃ (i : Nat) (out : WL), i ≤ l.length ∧ n = l.length - i ∧ out = (l.take i).map swW ∧ σ.keep [5, 13, 14, 15] [.sub (.s 5) 5] =
    ⟨[(5, .c (.osl (.sub (.s 5) 5) 0 out.length)), (13, lD .two l), (14, iD l.length), (15, iD i)], [(.sub (.s 5) 5, some (.row false .two out))]⟩, ⟨l.length, 0, [], by omega, by omega, rfl, rfl⟩, ?_⟩
  rintro σ n ⟨i, out, hi, rfl, hout, hσ⟩
  have hol : out.length = i := by rw [hout]; simp; omega
  unfold vcC
  rw [hσ]
  conv => whnf
  intro t (ht : t = decide ((i : Int) < l.length))
  cases t
  · have h : ¬ (i : Int) < l.length := of_decide_eq_false ht.symm
    rw [List.take_of_length_le (by omega)] at hout
    subst hout
    conv => whnf
    refine ⟨Nat.le_of_eq (Nat.zero_add _), ?_⟩
    conv => whnf
    have h48' : ∀ X : WL, X = l.map swW → ∀ R : RR, (∀ l' : WL, Q l' → R (lD .two l') []) → O 48 [lD .two X] [] R := by rintro _ rfl; exact h48
    refine ⟨[], ?_⟩
    conv => whnf
    refine h48' _ (by rw [List.drop_zero]; exact List.take_length) _ (fun l' hl' => ?_)
    conv => whnf
    exact ⟨[], .nil, hR l' hl'⟩
  have h : (i : Int) < l.length := of_decide_eq_true ht.symm
  have back : ∀ (out : WL) (len : Nat) (z : Int), len = out.length → z = ((i + 1 : Nat) : Int) →
    (⟨[(5, .c (.osl (.sub (.s 5) 5) 0 len)), (13, lD .two l), (14, iD l.length), (15, iD z)], [(.sub (.s 5) 5, some (.row false .two out))]⟩ : St TT) =
    ⟨[(5, .c (.osl (.sub (.s 5) 5) 0 out.length)), (13, lD .two l), (14, iD l.length), (15, iD ((i + 1 : Nat) : Int))], [(.sub (.s 5) 5, some (.row false .two out))]⟩ := by rintro _ _ _ rfl rfl; rfl
  conv => whnf
  refine ⟨(⟨by omega, by omega⟩ : (0 : Int) ≤ i ∧ (i : Int) < l.length), fun (u : V × V) (hu : l[(i : Int).toNat]? = some u) => ?_⟩
  have hu : l[i]? = some u := by simpa using hu
  have fin : out ++ [swW u] = (l.take (i + 1)).map swW := by rw [hout, List.take_add_one, hu]; simp
  obtain ⟨⟨k1, n1, s1, f1⟩, ⟨k2, n2, s2, f2⟩⟩ := u
  conv => whnf
  refine ⟨by decide, ?_⟩
  conv => whnf
  refine ⟨by decide, ?_⟩
  conv => whnf
  refine ⟨rfl, rfl, ?_⟩
  conv => whnf
  refine ⟨rfl, ?_⟩
  conv => whnf
  refine ⟨(by omega : out.length + 1 ≤ 68719476736), ?_⟩
  conv => whnf
  exact ⟨l.length - (i + 1), by omega, i + 1, _, by omega, rfl, fin, back _ _ _ (by simp) (wrapS _ (by omega) (by omega))⟩

theorem vc312 (l : WL) (v : V) (j : Nat) (p : V × V) (hj : idxP 0 v l 0 = (j : Int)) (hp : l[j]? = some p) (h47 : Gives O 47 [lD .two l, iD 0, vD v] (iD (idxP 0 v l 0))) (h57 : Gives O 57 [vD p.2] (vD p.2))
    (R : RR) (hR : R (.tup [vD p.2, bD true]) []) : vcF (S := SS) O ir312 [lD .two l, vD v] [] R := by
  rw [hj] at h47
  have hjl : j < l.length := (List.getElem?_eq_some_iff.1 hp).1
  have hf : ∀ u, l[(j : Int).toNat]? = some u → u = p := fun u hu => by
    rw [Int.toNat_natCast, hp] at hu
    exact (Option.some.inj hu).symm
  obtain ⟨k, n, s, f⟩ := v
  obtain ⟨⟨k1, n1, s1, f1⟩, ⟨k2, n2, s2, f2⟩⟩ := p
  refine ⟨Nat.le_of_ble_eq_true rfl, rfl, ?_⟩
  conv => whnf
  refine ⟨[], ?_⟩
  conv => whnf
  refine h47 _ ?_
  conv => whnf
  intro t ht
  have ht : t = true := Eq.trans ht (decide_eq_true (by omega))
  subst ht
  conv => whnf
  refine ⟨(⟨by omega, by omega⟩ : (0 : Int) ≤ j ∧ (j : Int) < l.length), fun (u : V × V) hu => ?_⟩
  obtain rfl := hf u hu
  conv => whnf
  refine ⟨by decide, ?_⟩
  conv => whnf
  refine ⟨[], ?_⟩
  conv => whnf
  refine h57 _ ?_
  conv => whnf
  exact ⟨[], .nil, hR⟩

theorem vc313 (l : WL) (v : V) (j : Nat) (p : V × V) (hj : idxP 1 v l 0 = (j : Int)) (hp : l[j]? = some p) (h47 : Gives O 47 [lD .two l, iD 1, vD v] (iD (idxP 1 v l 0))) (h57 : Gives O 57 [vD p.1] (vD p.1))
    (R : RR) (hR : R (.tup [vD p.1, bD true]) []) : vcF (S := SS) O ir313 [lD .two l, vD v] [] R := by
  rw [hj] at h47
  have hjl : j < l.length := (List.getElem?_eq_some_iff.1 hp).1
  have hf : ∀ u, l[(j : Int).toNat]? = some u → u = p := fun u hu => by
    rw [Int.toNat_natCast, hp] at hu
    exact (Option.some.inj hu).symm
  obtain ⟨k, n, s, f⟩ := v
  obtain ⟨⟨k1, n1, s1, f1⟩, ⟨k2, n2, s2, f2⟩⟩ := p
  refine ⟨Nat.le_of_ble_eq_true rfl, rfl, ?_⟩
  conv => whnf
  refine ⟨[], ?_⟩
  conv => whnf
  refine h47 _ ?_
  conv => whnf
  intro t ht
  have ht : t = true := Eq.trans ht (decide_eq_true (by omega))
  subst ht
  conv => whnf
  refine ⟨(⟨by omega, by omega⟩ : (0 : Int) ≤ j ∧ (j : Int) < l.length), fun (u : V × V) hu => ?_⟩
  obtain rfl := hf u hu
  conv => whnf
  refine ⟨by decide, ?_⟩
  conv => whnf
  refine ⟨[], ?_⟩
  conv => whnf
  refine h57 _ ?_
  conv => whnf
  exact ⟨[], .nil, hR⟩

theorem vc303 (x : LIS) (d : Int) (n : Nat) (hd : bel d 12 = (n : Int) - 1) (hn : 1 ≤ n) (hn2 : n ≤ 12)
    (h26 : Gives O 26 [iD d, iD 12] (iD (bel d 12))) (h44 : ∀ a, Gives O 44 [iD a] (vD (numV a))) (h11 : ∀ a : Int, Gives O 11 [vD (numV a), vD (numV a)] (bD true))
    (h27 : ∀ (l : LIS) (R : RR), (∀ σ, Pm n σ → R (lD .two (tabW σ)) []) → O 27 [lD .int l, iD n] [] R)
    (h309 : ∀ σ, Pm n σ → Gives O 309 [lD .two (tabW σ)] (.tup [lD .two (tabW (inv n σ)), iD 0]))
    (h28 : ∀ σ, Pm n σ → Gives O 28 [lD .two (tabW σ), lD .two (tabW (inv n σ))] (.tup [lD .two (tabW (rng n)), iD 0]))
    (h29 : ∀ a, Pm n a → Gives O 29 [lD .two (tabW a), lD .two (tabW a)] (bD true))
    (h312 : ∀ σ, Pm n σ → ∀ i : Nat, i < n → Gives O 312 [lD .two (tabW (inv n σ)), vD (numV i)] (.tup [vD (numV (σ.idxOf (i : Int) : Nat)), bD true]))
    (h313 : ∀ σ, Pm n σ → ∀ i : Nat, i < n → Gives O 313 [lD .two (tabW σ), vD (numV i)] (.tup [vD (numV (σ.idxOf (i : Int) : Nat)), bD true]))
    (R : RR) (hR : R (bD true) []) : vcF (S := SS) O ir303 [lD .int x, iD d] [] R := by
  have wn : IntKind.wrap .i64 (1 + bel d 12) = (n : Int) := by rw [hd, wrapS _ (by omega) (by omega)]; omega
  have h27' := h27
  rw [← wn] at h27'
  refine ⟨Nat.le_of_ble_eq_true rfl, rfl, ?_⟩
  conv => whnf
  refine ⟨[], ?_⟩
  conv => whnf
  refine h26 _ ?_
  conv => whnf
  refine ⟨[], ?_⟩
  conv => whnf
  refine h27' _ _ (fun σ hσ => ?_)
  have hi2 := h309 _ (inv_pm hσ)
  rw [inv_inv hσ] at hi2
  have hi1 := h309 σ hσ
  have hc := h28 σ hσ
  have he := h29 σ hσ
  have hto := h312 σ hσ
  have hfr := h313 σ hσ
  have hdl : ((tabW (rng n)).length : Int) = IntKind.wrap .i64 (1 + bel d 12) := by rw [tabF_len, rng_len, wn]
  have hdn : (tabW (rng n)).length = n := by rw [tabF_len, rng_len]
  have hdg : ∀ (i : Nat) (u : V × V), i < n → (tabW (rng n))[i]? = some u → u = (numV i, numV i) := fun i u hi hu => by
    rw [tab_at (rng_get hi)] at hu
    exact (Option.some.inj hu).symm
  generalize hb : inv n σ = τ at *
  generalize hid : tabW (rng n) = dd at *
  generalize σ.idxOf = ix at *
  conv => whnf
  refine ⟨[], ?_⟩
  conv => whnf
  refine hi1 _ ?_
  conv => whnf
  refine ⟨[], ?_⟩
  conv => whnf
  refine hi2 _ ?_
  conv => whnf
  refine ⟨[], ?_⟩
  conv => whnf
  refine hc _ ?_
  conv => whnf
  iterate 3
    intro t ht
    obtain rfl : t = false := ht
    conv => whnf
  intro _
  conv => whnf
  intro t ht
  have ht : t = false := Eq.trans ht (by rw [hdl]; exact bne_self_eq_false _)
  subst ht
  conv => whnf
  refine ⟨[], ?_⟩
  conv => whnf
  refine he _ ?_
  conv => whnf
  intro _
  conv => whnf
  refine ⟨fun st m => ∃ i : Nat, i ≤ dd.length ∧ m = dd.length - i ∧ st.keep [5, 6, 62, 63, 64] [] =
    ⟨[(5, lD .two (tabW σ)), (6, lD .two (tabW τ)), (62, lD .two dd), (63, iD dd.length), (64, iD i)], []⟩, ⟨dd.length, 0, by omega, by omega, rfl⟩, ?_⟩
  rintro st m ⟨i, hi, rfl, hst⟩
  unfold vcC
  rw [hst]
  conv => whnf
  intro t (ht : t = decide ((i : Int) < dd.length))
  cases t
  · exact ⟨[], .nil, hR⟩
  have h : (i : Int) < dd.length := of_decide_eq_true ht.symm
  have back : ∀ z : Int, z = ((i + 1 : Nat) : Int) → (⟨[(5, lD .two (tabW σ)), (6, lD .two (tabW τ)), (62, lD .two dd), (63, iD dd.length), (64, iD z)], []⟩ : St TT) =
    ⟨[(5, lD .two (tabW σ)), (6, lD .two (tabW τ)), (62, lD .two dd), (63, iD dd.length), (64, iD ((i + 1 : Nat) : Int))], []⟩ := by rintro _ rfl; rfl
  have hin : i < n := by omega
  have gto := hto i hin
  have gfr := hfr i hin
  conv => whnf
  refine ⟨(⟨by omega, by omega⟩ : (0 : Int) ≤ i ∧ (i : Int) < dd.length), fun (u : V × V) (hu : dd[(i : Int).toNat]? = some u) => ?_⟩
  obtain rfl := hdg i u hin (by simpa using hu)
  conv => whnf
  refine ⟨by decide, ?_⟩
  conv => whnf
  refine ⟨[], ?_⟩
  conv => whnf
  refine gto _ ?_
  conv => whnf
  refine ⟨by decide, ?_⟩
  conv => whnf
  refine ⟨[], ?_⟩
  conv => whnf
  refine gfr _ ?_
  conv => whnf
  refine ⟨[], ?_⟩
  conv => whnf
  refine h11 _ _ ?_
  conv => whnf
  refine ⟨by decide, ?_⟩
  conv => whnf
  refine ⟨[], ?_⟩
  conv => whnf
  refine h44 _ _ ?_
  conv => whnf
  refine ⟨[], ?_⟩
  conv => whnf
  refine h11 _ _ ?_
  conv => whnf
  refine ⟨by decide, ?_⟩
  conv => whnf
  refine ⟨[], ?_⟩
  conv => whnf
  refine h44 _ _ ?_
  conv => whnf
  refine ⟨[], ?_⟩
  conv => whnf
  refine h11 _ _ ?_
  conv => whnf
  exact ⟨dd.length - (i + 1), by omega, i + 1, by omega, rfl, back _ (wrapS _ (by omega) (by omega))⟩

end Go.Clap
