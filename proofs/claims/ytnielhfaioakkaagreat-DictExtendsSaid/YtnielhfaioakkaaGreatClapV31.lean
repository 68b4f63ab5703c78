/- Contracts: lookups completed, merged, compared; DictExtends. -/
import Derived.Test.YtnielhfaioakkaaGreatClapI8
import Derived.Test.YtnielhfaioakkaaGreatClapV26
set_option linter.unusedVariables false
set_option linter.unusedSimpArgs false
namespace Go.Clap
variable {O : Oracle TT}

theorem vc337 (l : WL) (R : RR) (hl : l.length ≤ 12) (hne : l ≠ []) (h2 : R (.c (.osl (.x 0) 0 l.length)) [(.x 0, some (.row false .two l))]) :
    vcF (S := SS) O ir337 [lD .two l] [] R := by
  refine ⟨Nat.le_of_ble_eq_true rfl, rfl, ?_⟩
  have key : ∀ (q : WL) (n : Nat), q = l → n = l.length → R (.c (.osl (.x 0) 0 n)) [(.x 0, some (.row false .two q))] := by rintro _ _ rfl rfl; exact h2
  conv => whnf
  intro t (ht : l ≠ [] → t = false)
  obtain rfl := ht hne
  conv => whnf
  refine ⟨rfl, rfl, ?_⟩
  conv => whnf
  refine ⟨rfl, ?_⟩
  conv => whnf
  refine ⟨(by simp; omega : ([] : WL).length + l.length ≤ 68719476736), ?_⟩
  conv => whnf
  exact ⟨[.s 7], (by decide : (lX 0 ++ [Id.s 7]).Nodup), key _ _ (List.nil_append l) (by simp)⟩

theorem vc318 (a b : WL) (hb : b.length ≤ 12) (h46 : ∀ k ∈ [a, b], Gives O 46 [lD .two k] (iD 0))
    (hf : ∀ p ∈ b, ∃ z : Int, Gives O 47 [lD .two a, iD 0, vD p.1] (iD z) ∧ Gives O 47 [lD .two a, iD 1, vD p.2] (iD z))
    (R : RR) (hR : R (.tup [.c .nils, iD 0]) []) : vcF (S := SS) O ir318 [lD .two a, lD .two b] [] R := by
  refine ⟨Nat.le_of_ble_eq_true rfl, rfl, ?_⟩
  conv => whnf
  intro _
  conv => whnf
  refine ⟨fun σ n => ∃ k : Nat, k ≤ 2 ∧ n = 2 - k ∧ σ.keep [0, 1, 14, 15, 16] [] = ⟨[(0, lD .two a), (1, lD .two b), (14, lD .vpairs [a, b]), (15, iD 2), (16, iD k)], []⟩, ⟨2, 0, by omega, by omega, rfl⟩, ?_⟩
  rintro σ n ⟨k, hk, rfl, hσ⟩
  unfold vcC
  rw [hσ]
  have h3 : k = 0 ∨ k = 1 ∨ k = 2 := by omega
  rcases h3 with rfl | rfl | rfl
  · conv => whnf
    intro t ht
    obtain rfl : t = true := ht
    conv => whnf
    refine ⟨(⟨by decide, by decide⟩ : (0 : Int) ≤ 0 ∧ (0 : Int) < 2), fun (z : WL) hz => ?_⟩
    obtain rfl : a = z := Option.some.inj hz
    conv => whnf
    refine ⟨[], ?_⟩
    conv => whnf
    refine h46 a (by simp) _ ?_
    conv => whnf
    intro t ht
    obtain rfl : t = false := ht
    conv => whnf
    exact ⟨2 - 1, by omega, 1, by omega, rfl, rfl⟩
  · conv => whnf
    intro t ht
    obtain rfl : t = true := ht
    conv => whnf
    refine ⟨(⟨by decide, by decide⟩ : (0 : Int) ≤ 1 ∧ (1 : Int) < 2), fun (z : WL) hz => ?_⟩
    obtain rfl : b = z := Option.some.inj hz
    conv => whnf
    refine ⟨[], ?_⟩
    conv => whnf
    refine h46 b (by simp) _ ?_
    conv => whnf
    intro t ht
    obtain rfl : t = false := ht
    conv => whnf
    exact ⟨2 - 2, by omega, 2, by omega, rfl, rfl⟩
  clear hσ hk
  conv => whnf
  intro t ht
  obtain rfl : t = false := ht
  conv => whnf
  intro _
  conv => whnf
  refine ⟨fun σ n => ∃ i : Nat, i ≤ b.length ∧ n = b.length - i ∧ σ.keep [0, 9, 26, 27, 28] [] = ⟨[(0, lD .two a), (9, .c .nils), (26, lD .two b), (27, iD b.length), (28, iD i)], []⟩, ⟨b.length, 0, by omega, by omega, rfl⟩, ?_⟩
  rintro σ n ⟨i, hi, rfl, hσ⟩
  unfold vcC
  rw [hσ]
  conv => whnf
  intro t (ht : t = decide ((i : Int) < b.length))
  cases t
  · exact ⟨[], .nil, hR⟩
  have h : (i : Int) < b.length := of_decide_eq_true ht.symm
  have back : ∀ z : Int, z = ((i + 1 : Nat) : Int) → (⟨[(0, lD .two a), (9, .c .nils), (26, lD .two b), (27, iD b.length), (28, iD z)], []⟩ : St TT) =
    ⟨[(0, lD .two a), (9, .c .nils), (26, lD .two b), (27, iD b.length), (28, iD ((i + 1 : Nat) : Int))], []⟩ := by rintro _ rfl; rfl
  conv => whnf
  refine ⟨(⟨by omega, by omega⟩ : (0 : Int) ≤ i ∧ (i : Int) < b.length), fun (u : V × V) (hu : b[(i : Int).toNat]? = some u) => ?_⟩
  have hu : b[i]? = some u := by simpa using hu
  obtain ⟨z, ga, gb⟩ := hf u (List.mem_of_getElem? hu)
  obtain ⟨⟨k1, n1, s1, f1⟩, ⟨k2, n2, s2, f2⟩⟩ := u
  conv => whnf
  refine ⟨by decide, ?_⟩
  conv => whnf
  refine ⟨by decide, ?_⟩
  conv => whnf
  refine ⟨[], ?_⟩
  conv => whnf
  refine ga _ ?_
  conv => whnf
  refine ⟨[], ?_⟩
  conv => whnf
  refine gb _ ?_
  conv => whnf
  intro t ht
  have ht : t = false := Eq.trans ht (bne_self_eq_false _)
  subst ht
  conv => whnf
  exact ⟨b.length - (i + 1), by omega, i + 1, by omega, rfl, back _ (wrapS _ (by omega) (by omega))⟩

theorem vc317 (a b : WL) (ha : a.length ≤ 12) (hb : b.length ≤ 12) (h46 : ∀ k ∈ [a, b], Gives O 46 [lD .two k] (iD 0))
    (x0 x1 y0 y1 : Int) (ha0 : a[0]? = some (numV x0, numV x1)) (hb0 : b[0]? = some (numV y0, numV y1))
    (hf : ∀ p ∈ b, ∃ z : Nat, Gives O 47 [lD .two a, iD 0, vD p.1] (iD z) ∧ Gives O 47 [lD .two a, iD 1, vD p.2] (iD z))
    (h337 : ∀ R : RR, R (.c (.osl (.x 0) 0 a.length)) [(.x 0, some (.row false .two a))] → O 337 [lD .two a] [] R) (Q : WL → Prop)
    (h48 : ∀ R : RR, (∀ l' : WL, Q l' → R (lD .two l') []) → O 48 [lD .two a] [] R)
    (R : RR) (hR : ∀ l' : WL, Q l' → R (.tup [lD .two l', iD 0]) []) : vcF (S := SS) O ir317 [lD .two a, lD .two b] [] R := by
  have la : 0 < a.length := (List.getElem?_eq_some_iff.1 ha0).1
  have lb : 0 < b.length := (List.getElem?_eq_some_iff.1 hb0).1
  refine ⟨Nat.le_of_ble_eq_true rfl, rfl, ?_⟩
  conv => whnf
  intro _
  conv => whnf
  refine ⟨fun σ n => ∃ k : Nat, k ≤ 2 ∧ n = 2 - k ∧ σ.keep [0, 1, 16, 17, 18] [] = ⟨[(0, lD .two a), (1, lD .two b), (16, lD .vpairs [a, b]), (17, iD 2), (18, iD k)], []⟩, ⟨2, 0, by omega, by omega, rfl⟩, ?_⟩
  rintro σ n ⟨k, hk, rfl, hσ⟩
  unfold vcC
  rw [hσ]
  have h3 : k = 0 ∨ k = 1 ∨ k = 2 := by omega
  rcases h3 with rfl | rfl | rfl
  · conv => whnf
    intro t ht
    obtain rfl : t = true := ht
    conv => whnf
    refine ⟨(⟨by decide, by decide⟩ : (0 : Int) ≤ 0 ∧ (0 : Int) < 2), fun (z : WL) hz => ?_⟩
    obtain rfl : a = z := Option.some.inj hz
    conv => whnf
    refine ⟨[], ?_⟩
    conv => whnf
    refine h46 a (by simp) _ ?_
    conv => whnf
    intro t ht
    obtain rfl : t = false := ht
    conv => whnf
    exact ⟨2 - 1, by omega, 1, by omega, rfl, rfl⟩
  · conv => whnf
    intro t ht
    obtain rfl : t = true := ht
    conv => whnf
    refine ⟨(⟨by decide, by decide⟩ : (0 : Int) ≤ 1 ∧ (1 : Int) < 2), fun (z : WL) hz => ?_⟩
    obtain rfl : b = z := Option.some.inj hz
    conv => whnf
    refine ⟨[], ?_⟩
    conv => whnf
    refine h46 b (by simp) _ ?_
    conv => whnf
    intro t ht
    obtain rfl : t = false := ht
    conv => whnf
    exact ⟨2 - 2, by omega, 2, by omega, rfl, rfl⟩
  clear hσ hk
  conv => whnf
  intro t ht
  obtain rfl : t = false := ht
  conv => whnf
  refine ⟨(⟨by omega, by omega⟩ : (0 : Int) ≤ 0 ∧ (0 : Int) < a.length), fun (u : V × V) (hu : a[(0 : Int).toNat]? = some u) => ?_⟩
  obtain rfl : (numV x0, numV x1) = u := Option.some.inj (ha0.symm.trans hu)
  conv => whnf
  refine ⟨by decide, ?_⟩
  conv => whnf
  refine ⟨(⟨by omega, by omega⟩ : (0 : Int) ≤ 0 ∧ (0 : Int) < b.length), fun (v : V × V) (hv : b[(0 : Int).toNat]? = some v) => ?_⟩
  obtain rfl : (numV y0, numV y1) = v := Option.some.inj (hb0.symm.trans hv)
  conv => whnf
  refine ⟨by decide, ?_⟩
  conv => whnf
  intro t ht
  obtain rfl : t = false := ht
  conv => whnf
  refine ⟨(⟨by omega, by omega⟩ : (0 : Int) ≤ 0 ∧ (0 : Int) < a.length), fun (u : V × V) (hu : a[(0 : Int).toNat]? = some u) => ?_⟩
  obtain rfl : (numV x0, numV x1) = u := Option.some.inj (ha0.symm.trans hu)
  conv => whnf
  refine ⟨by decide, ?_⟩
  conv => whnf
  refine ⟨(⟨by omega, by omega⟩ : (0 : Int) ≤ 0 ∧ (0 : Int) < b.length), fun (v : V × V) (hv : b[(0 : Int).toNat]? = some v) => ?_⟩
  obtain rfl : (numV y0, numV y1) = v := Option.some.inj (hb0.symm.trans hv)
  conv => whnf
  refine ⟨by decide, ?_⟩
  conv => whnf
  intro t ht
  obtain rfl : t = false := ht
  conv => whnf
  refine ⟨[], ?_⟩
  conv => whnf
  refine h337 _ ?_
  conv => whnf
  refine ⟨Nat.le_of_eq (Nat.zero_add _), ?_⟩
  have hfz : ∀ X : WL, X = a → X = a := fun _ h => h
  conv => whnf
  intro _
  conv => whnf
  have key : ∀ X : WL, X = a → (⟨[(0, lD .two a), (9, lD .two X), (54, lD .two b), (55, iD b.length), (56, iD 0)], []⟩ : St TT) = ⟨[(0, lD .two a), (9, lD .two a), (54, lD .two b), (55, iD b.length), (56, iD 0)], []⟩ := by rintro _ rfl; rfl
  refine ⟨fun σ n => ∃ i : Nat, i ≤ b.length ∧ n = b.length - i ∧ σ.keep [0, 9, 54, 55, 56] [] = ⟨[(0, lD .two a), (9, lD .two a), (54, lD .two b), (55, iD b.length), (56, iD i)], []⟩, ⟨b.length, 0, by omega, by omega, key _ (by rw [List.drop_zero]; exact List.take_length)⟩, ?_⟩
  clear key
  rintro σ n ⟨i, hi, rfl, hσ⟩
  unfold vcC
  rw [hσ]
  conv => whnf
  intro t (ht : t = decide ((i : Int) < b.length))
  cases t
  · conv => whnf
    intro _
    conv => whnf
    intro t ht
    have ht : t = false := Eq.trans ht (decide_eq_false (by omega))
    subst ht
    conv => whnf
    refine ⟨[], ?_⟩
    conv => whnf
    refine h48 _ (fun l' hl' => ?_)
    conv => whnf
    exact ⟨[], .nil, hR l' hl'⟩
  have h : (i : Int) < b.length := of_decide_eq_true ht.symm
  have back : ∀ z : Int, z = ((i + 1 : Nat) : Int) → (⟨[(0, lD .two a), (9, lD .two a), (54, lD .two b), (55, iD b.length), (56, iD z)], []⟩ : St TT) =
    ⟨[(0, lD .two a), (9, lD .two a), (54, lD .two b), (55, iD b.length), (56, iD ((i + 1 : Nat) : Int))], []⟩ := by rintro _ rfl; rfl
  conv => whnf
  refine ⟨(⟨by omega, by omega⟩ : (0 : Int) ≤ i ∧ (i : Int) < b.length), fun (u : V × V) (hu : b[(i : Int).toNat]? = some u) => ?_⟩
  have hu : b[i]? = some u := by simpa using hu
  obtain ⟨z, ga, gb⟩ := hf u (List.mem_of_getElem? hu)
  obtain ⟨⟨k1, n1, s1, f1⟩, ⟨k2, n2, s2, f2⟩⟩ := u
  conv => whnf
  refine ⟨by decide, ?_⟩
  conv => whnf
  refine ⟨by decide, ?_⟩
  conv => whnf
  refine ⟨[], ?_⟩
  conv => whnf
  refine ga _ ?_
  conv => whnf
  refine ⟨[], ?_⟩
  conv => whnf
  refine gb _ ?_
  conv => whnf
  intro t ht
  have ht : t = false := Eq.trans ht (bne_self_eq_false _)
  subst ht
  conv => whnf
  intro t ht
  have ht : t = false := Eq.trans ht (decide_eq_false (by omega))
  subst ht
  conv => whnf
  exact ⟨b.length - (i + 1), by omega, i + 1, by omega, rfl, back _ (wrapS _ (by omega) (by omega))⟩

end Go.Clap

set_option linter.unusedVariables false
set_option linter.unusedSimpArgs false
namespace Go.Clap
variable {O : Oracle TT}

/-- The numbers below `i` that stand on no side `k`. -/
def lf (k : Nat) (l : WL) (i : Nat) : LIS := (rng i).filter fun v => decide (idxP k (numV v) l 0 < 0)
theorem lf_succ (k : Nat) (l : WL) (i : Nat) : lf k l (i + 1) = cond (decide (idxP k (numV (i : Int)) l 0 < 0)) (lf k l i ++ [(i : Int)]) (lf k l i) := by
  rw [lf, rng_succ, List.filter_append]
  cases h : decide (idxP k (numV (i : Int)) l 0 < 0) <;> simp [h, lf]
theorem lf_len (k : Nat) (l : WL) (i : Nat) : (lf k l i).length ≤ i := by
  have := List.length_filter_le (fun v => decide (idxP k (numV v) l 0 < 0)) (rng i)
  rwa [rng_len] at this
def prs (xa xb : LIS) : WL := (xa.zip xb).map fun p => (numV p.1, numV p.2)
theorem prs_get : ∀ {xa xb : LIS} {i : Nat} {u v : Int}, xa[i]? = some u → xb[i]? = some v → (prs xa xb)[i]? = some (numV u, numV v)
  | [], xb, i, u, v, h, _ => by simp at h
  | a :: xa, [], i, u, v, _, h => by simp at h
  | a :: xa, b :: xb, 0, u, v, h1, h2 => by
    simp at h1 h2
    subst h1 h2
    rfl
  | a :: xa, b :: xb, i + 1, u, v, h1, h2 => by
    have := prs_get (xa := xa) (xb := xb) (i := i) (by simpa using h1) (by simpa using h2)
    simpa [prs] using this

abbrev clE (a1 b1 : Id) (xa xb : LIS) : List (Id × Option (Ent TT)) := [(.s 9, some (.var [.osl a1 0 xa.length, .osl b1 0 xb.length])), (a1, some (.row false .int xa)), (b1, some (.row false .int xb))]

set_option maxHeartbeats 8000000 in
theorem vc316 (l : WL) (n : Nat) (hn : 1 ≤ n) (hn2 : n ≤ 12) (hl : l.length ≤ 12) (x0 x1 : Int) (hl0 : l[0]? = some (numV x0, numV x1))
    (hp : ∀ p ∈ l, ∃ a b : Nat, a < n ∧ b < n ∧ p = (numV a, numV b)) (h46 : Gives O 46 [lD .two l] (iD 0))
    (h47 : ∀ (k : Nat), (k = 0 ∨ k = 1) → ∀ v : Int, Gives O 47 [lD .two l, iD k, vD (numV v)] (iD (idxP k (numV v) l 0)))
    (h337 : ∀ R : RR, R (.c (.osl (.x 0) 0 l.length)) [(.x 0, some (.row false .two l))] → O 337 [lD .two l] [] R)
    (hlab : (lf 0 l n).length = (lf 1 l n).length) (h46o : Gives O 46 [lD .two (l ++ prs (lf 0 l n) (lf 1 l n))] (iD 0)) (Q : WL → Prop)
    (h48 : ∀ R : RR, (∀ l' : WL, Q l' → R (lD .two l') []) → O 48 [lD .two (l ++ prs (lf 0 l n) (lf 1 l n))] [] R)
    (R : RR) (hR : ∀ l' : WL, Q l' → R (.tup [lD .two l', iD 0]) []) : vcF (S := SS) O ir316 [lD .two l, iD 0, iD ((n : Int) - 1)] [] R := by
  have la : 0 < l.length := (List.getElem?_eq_some_iff.1 hl0).1
  have lna := lf_len 0 l n
  have lnb := lf_len 1 l n
  have w1 : IntKind.wrap .i64 (((n : Int) - 1) - 0) = (n : Int) - 1 := by rw [wrapS _ (by omega) (by omega)]; omega
  have w2 : IntKind.wrap .i64 (IntKind.wrap .i64 (((n : Int) - 1) - 0) + 1) = (n : Int) := by rw [w1, wrapS _ (by omega) (by omega)]; omega
  refine ⟨Nat.le_of_ble_eq_true rfl, rfl, ?_⟩
  conv => whnf
  refine ⟨[], ?_⟩
  conv => whnf
  refine h46 _ ?_
  conv => whnf
  intro t ht
  obtain rfl : t = false := ht
  conv => whnf
  refine ⟨(⟨by omega, by omega⟩ : (0 : Int) ≤ 0 ∧ (0 : Int) < l.length), fun (u : V × V) (hu : l[(0 : Int).toNat]? = some u) => ?_⟩
  obtain rfl : (numV x0, numV x1) = u := Option.some.inj (hl0.symm.trans hu)
  conv => whnf
  refine ⟨by decide, ?_⟩
  conv => whnf
  intro t ht
  obtain rfl : t = false := ht
  conv => whnf
  refine ⟨(⟨by omega, by omega⟩ : (0 : Int) ≤ 0 ∧ (0 : Int) < l.length), fun (u : V × V) (hu : l[(0 : Int).toNat]? = some u) => ?_⟩
  obtain rfl : (numV x0, numV x1) = u := Option.some.inj (hl0.symm.trans hu)
  conv => whnf
  refine ⟨by decide, ?_⟩
  conv => whnf
  intro t ht
  obtain rfl : t = false := ht
  conv => whnf
  intro t ht
  have ht : t = false := Eq.trans ht (decide_eq_false (by omega))
  subst ht
  conv => whnf
  intro t ht
  obtain rfl : t = false := ht
  conv => whnf
  intro t ht
  have ht : t = false := Eq.trans ht (decide_eq_false (by omega))
  subst ht
  conv => whnf
  intro t ht
  have ht : t = false := Eq.trans ht (decide_eq_false (by rw [w2]; omega))
  subst ht
  conv => whnf
  refine ⟨fun σ m => ∃ (k : Nat) (xa xb : LIS), k ≤ 2 ∧ m = 2 - k ∧ (k = 0 → xa = [] ∧ xb = []) ∧ (k = 1 → xa = lf 0 l n ∧ xb = []) ∧ (k = 2 → xa = lf 0 l n ∧ xb = lf 1 l n) ∧ σ.keep [0, 1, 2, 9, 53] [.s 9, (.sub (.s 9) 9), (.sub (.s 9) 11)] =
    ⟨[(0, lD .two l), (1, iD 0), (2, iD ((n : Int) - 1)), (9, .c (.ptr (.s 9) 0 0)), (53, iD k)], clE (.sub (.s 9) 9) (.sub (.s 9) 11) xa xb⟩,
    ⟨2, 0, [], [], by omega, by omega, fun _ => ⟨rfl, rfl⟩, fun h => by omega, fun h => by omega, rfl⟩, ?_⟩
  rintro σ m ⟨k, xa, xb, hk, rfl, hk0, hk1, hk2, hσ⟩
  unfold vcC
  rw [hσ]
  have h3 : k = 0 ∨ k = 1 ∨ k = 2 := by omega
  rcases h3 with rfl | rfl | rfl
  rotate_left 2
  · -- both sides are listed
    obtain ⟨rfl, rfl⟩ := hk2 rfl
    clear hk0 hk1 hk2 hσ hk
    conv => whnf
    intro t ht
    obtain rfl : t = false := ht
    conv => whnf
    refine ⟨[], ?_⟩
    conv => whnf
    refine h337 _ ?_
    conv => whnf
    refine ⟨Nat.le_of_eq (Nat.zero_add _), ?_⟩
    conv => whnf
    refine ⟨Nat.le_of_eq (Nat.zero_add _), ?_⟩
    conv => whnf
    refine ⟨by decide, ?_⟩
    conv => whnf
    intro _
    conv => whnf
    have key : ∀ X Y : LIS, X = lf 0 l n → Y = lf 1 l n → (⟨[(0, lD .two l), (9, .c (.ptr (.s 9) 0 0)), (14, .c (.osl (.sub (.s 14) 14) 0 l.length)), (107, lD .int X), (108, iD X.length), (109, iD 0)], [(.s 9, some (.var [.isl .int X, .isl .int Y])), ((.sub (.s 14) 14), some (.row false .two l))]⟩ : St TT) =
      ⟨[(0, lD .two l), (9, .c (.ptr (.s 9) 0 0)), (14, .c (.osl (.sub (.s 14) 14) 0 l.length)), (107, lD .int (lf 0 l n)), (108, iD (lf 0 l n).length), (109, iD 0)], [(.s 9, some (.var [.isl .int (lf 0 l n), .isl .int (lf 1 l n)])), ((.sub (.s 14) 14), some (.row false .two l))]⟩ := by rintro _ _ rfl rfl; rfl
    have htk : ∀ X : LIS, (X.drop 0).take X.length = X := fun X => by rw [List.drop_zero]; exact List.take_length
    refine ⟨fun σ m => ∃ (i : Nat) (out : WL), i ≤ (lf 0 l n).length ∧ m = (lf 0 l n).length - i ∧ out = l ++ (prs (lf 0 l n) (lf 1 l n)).take i ∧ σ.keep [0, 9, 14, 107, 108, 109] [.s 9, (.sub (.s 14) 14)] =
      ⟨[(0, lD .two l), (9, .c (.ptr (.s 9) 0 0)), (14, .c (.osl (.sub (.s 14) 14) 0 out.length)), (107, lD .int (lf 0 l n)), (108, iD (lf 0 l n).length), (109, iD i)], [(.s 9, some (.var [.isl .int (lf 0 l n), .isl .int (lf 1 l n)])), ((.sub (.s 14) 14), some (.row false .two out))]⟩,
      ⟨(lf 0 l n).length, 0, l, by omega, by omega, by simp, key _ _ (htk _) (htk _)⟩, ?_⟩
    clear key htk
    have hpl : (prs (lf 0 l n) (lf 1 l n)).length = (lf 0 l n).length := by simp [prs, hlab]
    have hpg : ∀ (i : Nat) (u v : Int), (lf 0 l n)[i]? = some u → (lf 1 l n)[i]? = some v → (prs (lf 0 l n) (lf 1 l n)).take (i + 1) = (prs (lf 0 l n) (lf 1 l n)).take i ++ [(numV u, numV v)] := fun i u v hu hv => by
      have hz := prs_get hu hv
      rw [List.take_add_one, hz]
      rfl
    have h46' : ∀ X : WL, X = l ++ prs (lf 0 l n) (lf 1 l n) → Gives O 46 [lD .two X] (iD 0) := by rintro _ rfl; exact h46o
    have h48' : ∀ X : WL, X = l ++ prs (lf 0 l n) (lf 1 l n) → ∀ R : RR, (∀ l' : WL, Q l' → R (lD .two l') []) → O 48 [lD .two X] [] R := by rintro _ rfl; exact h48
    generalize prs (lf 0 l n) (lf 1 l n) = pp at *
    generalize lf 0 l n = xa at *
    generalize lf 1 l n = xb at *
    rintro σ m ⟨i, out, hi, rfl, hout, hσ⟩
    have hol : out.length = l.length + i := by rw [hout]; simp; omega
    unfold vcC
    rw [hσ]
    conv => whnf
    intro t (ht : t = decide ((i : Int) < xa.length))
    cases t
    · have h : ¬ (i : Int) < xa.length := of_decide_eq_false ht.symm
      rw [List.take_of_length_le (by omega)] at hout
      have hX : (out.drop 0).take out.length = l ++ pp := by rw [List.drop_zero, List.take_length]; exact hout
      conv => whnf
      refine ⟨Nat.le_of_eq (Nat.zero_add _), ?_⟩
      conv => whnf
      refine ⟨[], ?_⟩
      conv => whnf
      refine h46' _ hX _ ?_
      conv => whnf
      intro t ht
      obtain rfl : t = false := ht
      conv => whnf
      refine ⟨[], ?_⟩
      conv => whnf
      refine h48' _ hX _ (fun l' hl' => ?_)
      conv => whnf
      exact ⟨[], .nil, hR l' hl'⟩
    have h : (i : Int) < xa.length := of_decide_eq_true ht.symm
    have back : ∀ (out : WL) (len : Nat) (z : Int), len = out.length → z = ((i + 1 : Nat) : Int) →
      (⟨[(0, lD .two l), (9, .c (.ptr (.s 9) 0 0)), (14, .c (.osl (.sub (.s 14) 14) 0 len)), (107, lD .int xa), (108, iD xa.length), (109, iD z)], [(.s 9, some (.var [.isl .int xa, .isl .int xb])), ((.sub (.s 14) 14), some (.row false .two out))]⟩ : St TT) =
      ⟨[(0, lD .two l), (9, .c (.ptr (.s 9) 0 0)), (14, .c (.osl (.sub (.s 14) 14) 0 out.length)), (107, lD .int xa), (108, iD xa.length), (109, iD ((i + 1 : Nat) : Int))], [(.s 9, some (.var [.isl .int xa, .isl .int xb])), ((.sub (.s 14) 14), some (.row false .two out))]⟩ := by rintro _ _ _ rfl rfl; rfl
    conv => whnf
    refine ⟨(⟨by omega, by omega⟩ : (0 : Int) ≤ i ∧ (i : Int) < xa.length), fun (u : Int) (hu : xa[(i : Int).toNat]? = some u) => ?_⟩
    have hu : xa[i]? = some u := by simpa using hu
    conv => whnf
    refine ⟨(⟨by omega, by omega⟩ : (0 : Int) ≤ 0 ∧ (0 : Int) < l.length), fun (q : V × V) (hq : l[(0 : Int).toNat]? = some q) => ?_⟩
    obtain rfl : (numV x0, numV x1) = q := Option.some.inj (hl0.symm.trans hq)
    conv => whnf
    refine ⟨by decide, ?_⟩
    conv => whnf
    refine ⟨(⟨by omega, by omega⟩ : (0 : Int) ≤ 0 ∧ (0 : Int) < l.length), fun (q : V × V) (hq : l[(0 : Int).toNat]? = some q) => ?_⟩
    obtain rfl : (numV x0, numV x1) = q := Option.some.inj (hl0.symm.trans hq)
    conv => whnf
    refine ⟨by decide, ?_⟩
    conv => whnf
    refine ⟨by decide, ?_⟩
    conv => whnf
    refine ⟨(⟨by omega, by omega⟩ : (0 : Int) ≤ i ∧ (i : Int) < xb.length), fun (v : Int) (hv : xb[(i : Int).toNat]? = some v) => ?_⟩
    have hv : xb[i]? = some v := by simpa using hv
    have fin : out ++ [(numV u, numV v)] = l ++ pp.take (i + 1) := by rw [hpg i u v hu hv, hout, List.append_assoc]
    conv => whnf
    refine ⟨rfl, rfl, ?_⟩
    conv => whnf
    refine ⟨rfl, ?_⟩
    conv => whnf
    refine ⟨(by omega : out.length + 1 ≤ 68719476736), ?_⟩
    conv => whnf
    exact ⟨xa.length - (i + 1), by omega, i + 1, _, by omega, rfl, fin, back _ _ _ (by simp) (wrapS _ (by omega) (by omega))⟩
  · -- side 0
    obtain ⟨rfl, rfl⟩ := hk0 rfl
    clear hk0 hk1 hk2 hσ hk
    conv => whnf
    intro t ht
    obtain rfl : t = true := ht
    conv => whnf
    intro _
    conv => whnf
    refine ⟨fun σ m => ∃ i : Nat, i ≤ l.length ∧ m = l.length - i ∧ σ.keep [0, 1, 2, 9, 10, 53, 56, 57, 58] [.s 9, (.sub (.s 9) 9), (.sub (.s 9) 11)] =
      ⟨[(0, lD .two l), (1, iD 0), (2, iD ((n : Int) - 1)), (9, .c (.ptr (.s 9) 0 0)), (10, iD 0), (53, iD 0), (56, lD .two l), (57, iD l.length), (58, iD i)], clE (.sub (.s 9) 9) (.sub (.s 9) 11) [] []⟩, ⟨l.length, 0, by omega, by omega, rfl⟩, ?_⟩
    rintro σ m ⟨i, hi, rfl, hσ⟩
    unfold vcC
    rw [hσ]
    conv => whnf
    intro t (ht : t = decide ((i : Int) < l.length))
    cases t
    rotate_left
    · have h : (i : Int) < l.length := of_decide_eq_true ht.symm
      have back : ∀ z : Int, z = ((i + 1 : Nat) : Int) → (⟨[(0, lD .two l), (1, iD 0), (2, iD ((n : Int) - 1)), (9, .c (.ptr (.s 9) 0 0)), (10, iD 0), (53, iD 0), (56, lD .two l), (57, iD l.length), (58, iD z)], clE (.sub (.s 9) 9) (.sub (.s 9) 11) [] []⟩ : St TT) =
        ⟨[(0, lD .two l), (1, iD 0), (2, iD ((n : Int) - 1)), (9, .c (.ptr (.s 9) 0 0)), (10, iD 0), (53, iD 0), (56, lD .two l), (57, iD l.length), (58, iD ((i + 1 : Nat) : Int))], clE (.sub (.s 9) 9) (.sub (.s 9) 11) [] []⟩ := by rintro _ rfl; rfl
      conv => whnf
      refine ⟨(⟨by omega, by omega⟩ : (0 : Int) ≤ i ∧ (i : Int) < l.length), fun (u : V × V) (hu : l[(i : Int).toNat]? = some u) => ?_⟩
      have hu : l[i]? = some u := by simpa using hu
      obtain ⟨a, b, ha, hb, rfl⟩ := hp u (List.mem_of_getElem? hu)
      conv => whnf
      refine ⟨by decide, ?_⟩
      conv => whnf
      intro t ht
      have ht : t = false := Eq.trans ht (decide_eq_false (by omega))
      subst ht
      conv => whnf
      refine ⟨by decide, ?_⟩
      conv => whnf
      intro t ht
      have ht : t = false := Eq.trans ht (decide_eq_false (by omega))
      subst ht
      conv => whnf
      exact ⟨l.length - (i + 1), by omega, i + 1, by omega, rfl, back _ (wrapS _ (by omega) (by omega))⟩
    clear hσ ht hi
    conv => whnf
    refine ⟨fun σ m => ∃ (i : Nat) (xs : LIS), i ≤ n ∧ m = n - i ∧ xs = lf 0 l i ∧ σ.keep [0, 1, 2, 9, 10, 13, 53] [.s 9, (.sub (.s 9) 9), (.sub (.s 9) 11)] =
      ⟨[(0, lD .two l), (1, iD 0), (2, iD ((n : Int) - 1)), (9, .c (.ptr (.s 9) 0 0)), (10, iD 0), (13, iD i), (53, iD 0)], clE (.sub (.s 9) 9) (.sub (.s 9) 11) xs []⟩, ⟨n, 0, [], by omega, by omega, rfl, rfl⟩, ?_⟩
    rintro σ m ⟨i, xs, hi, rfl, hxs, hσ⟩
    have hxl : xs.length ≤ i := by rw [hxs]; exact lf_len 0 l i
    unfold vcC
    rw [hσ]
    conv => whnf
    intro t (ht : t = decide ((i : Int) ≤ (n : Int) - 1))
    cases t
    · have h : ¬ (i : Int) ≤ (n : Int) - 1 := of_decide_eq_false ht.symm
      obtain rfl : i = n := by omega
      subst hxs
      conv => whnf
      exact ⟨2 - (0 + 1), by omega, 0 + 1, _, _, by omega, rfl, fun h => by omega, fun h => ⟨rfl, rfl⟩, fun h => by omega, rfl⟩
    have h : (i : Int) ≤ (n : Int) - 1 := of_decide_eq_true ht.symm
    have g := h47 0 (.inl rfl) (i : Int)
    have hsu := lf_succ 0 l i
    rw [← hxs] at hsu
    generalize hz : idxP 0 (numV (i : Int)) l 0 = z at g hsu
    have back : ∀ (os : LIS) (len : Nat) (z : Int), os = lf 0 l (i + 1) → len = os.length → z = ((i + 1 : Nat) : Int) →
      (⟨[(0, lD .two l), (1, iD 0), (2, iD ((n : Int) - 1)), (9, .c (.ptr (.s 9) 0 0)), (10, iD 0), (13, iD z), (53, iD 0)], [(.s 9, some (.var [.osl (.sub (.s 9) 9) 0 len, .osl (.sub (.s 9) 11) 0 0])), ((.sub (.s 9) 9), some (.row false .int os)), ((.sub (.s 9) 11), some (.row false .int []))]⟩ : St TT) =
      ⟨[(0, lD .two l), (1, iD 0), (2, iD ((n : Int) - 1)), (9, .c (.ptr (.s 9) 0 0)), (10, iD 0), (13, iD ((i + 1 : Nat) : Int)), (53, iD 0)], clE (.sub (.s 9) 9) (.sub (.s 9) 11) os []⟩ := by rintro _ _ _ rfl rfl rfl; rfl
    conv => whnf
    refine ⟨(⟨by omega, by omega⟩ : (0 : Int) ≤ 0 ∧ (0 : Int) < l.length), fun (u : V × V) (hu : l[(0 : Int).toNat]? = some u) => ?_⟩
    obtain rfl : (numV x0, numV x1) = u := Option.some.inj (hl0.symm.trans hu)
    conv => whnf
    refine ⟨by decide, ?_⟩
    conv => whnf
    refine ⟨[], ?_⟩
    conv => whnf
    refine g _ ?_
    conv => whnf
    intro t (ht : t = decide (z < 0))
    rw [← ht] at hsu
    cases t
    · conv => whnf
      exact ⟨n - (i + 1), by omega, i + 1, xs, by omega, rfl, hsu.symm, back _ _ _ hsu.symm rfl (wrapS _ (by omega) (by omega))⟩
    · conv => whnf
      refine ⟨by decide, ?_⟩
      conv => whnf
      refine ⟨rfl, rfl, ?_⟩
      conv => whnf
      refine ⟨rfl, ?_⟩
      conv => whnf
      refine ⟨(by omega : xs.length + 1 ≤ 68719476736), ?_⟩
      conv => whnf
      refine ⟨by decide, ?_⟩
      conv => whnf
      exact ⟨n - (i + 1), by omega, i + 1, xs ++ [(i : Int)], by omega, rfl, hsu.symm, back _ _ _ hsu.symm (by simp) (wrapS _ (by omega) (by omega))⟩
  · -- side 1
    obtain ⟨rfl, rfl⟩ := hk1 rfl
    clear hk0 hk1 hk2 hσ hk
    conv => whnf
    intro t ht
    obtain rfl : t = true := ht
    conv => whnf
    intro _
    conv => whnf
    refine ⟨fun σ m => ∃ i : Nat, i ≤ l.length ∧ m = l.length - i ∧ σ.keep [0, 1, 2, 9, 10, 53, 56, 57, 58] [.s 9, (.sub (.s 9) 9), (.sub (.s 9) 11)] =
      ⟨[(0, lD .two l), (1, iD 0), (2, iD ((n : Int) - 1)), (9, .c (.ptr (.s 9) 0 0)), (10, iD 1), (53, iD 1), (56, lD .two l), (57, iD l.length), (58, iD i)], clE (.sub (.s 9) 9) (.sub (.s 9) 11) (lf 0 l n) []⟩, ⟨l.length, 0, by omega, by omega, rfl⟩, ?_⟩
    rintro σ m ⟨i, hi, rfl, hσ⟩
    unfold vcC
    rw [hσ]
    conv => whnf
    intro t (ht : t = decide ((i : Int) < l.length))
    cases t
    rotate_left
    · have h : (i : Int) < l.length := of_decide_eq_true ht.symm
      have back : ∀ z : Int, z = ((i + 1 : Nat) : Int) → (⟨[(0, lD .two l), (1, iD 0), (2, iD ((n : Int) - 1)), (9, .c (.ptr (.s 9) 0 0)), (10, iD 1), (53, iD 1), (56, lD .two l), (57, iD l.length), (58, iD z)], clE (.sub (.s 9) 9) (.sub (.s 9) 11) (lf 0 l n) []⟩ : St TT) =
        ⟨[(0, lD .two l), (1, iD 0), (2, iD ((n : Int) - 1)), (9, .c (.ptr (.s 9) 0 0)), (10, iD 1), (53, iD 1), (56, lD .two l), (57, iD l.length), (58, iD ((i + 1 : Nat) : Int))], clE (.sub (.s 9) 9) (.sub (.s 9) 11) (lf 0 l n) []⟩ := by rintro _ rfl; rfl
      conv => whnf
      refine ⟨(⟨by omega, by omega⟩ : (0 : Int) ≤ i ∧ (i : Int) < l.length), fun (u : V × V) (hu : l[(i : Int).toNat]? = some u) => ?_⟩
      have hu : l[i]? = some u := by simpa using hu
      obtain ⟨a, b, ha, hb, rfl⟩ := hp u (List.mem_of_getElem? hu)
      conv => whnf
      refine ⟨by decide, ?_⟩
      conv => whnf
      intro t ht
      have ht : t = false := Eq.trans ht (decide_eq_false (by omega))
      subst ht
      conv => whnf
      refine ⟨by decide, ?_⟩
      conv => whnf
      intro t ht
      have ht : t = false := Eq.trans ht (decide_eq_false (by omega))
      subst ht
      conv => whnf
      exact ⟨l.length - (i + 1), by omega, i + 1, by omega, rfl, back _ (wrapS _ (by omega) (by omega))⟩
    clear hσ ht hi
    conv => whnf
    refine ⟨fun σ m => ∃ (i : Nat) (xs : LIS), i ≤ n ∧ m = n - i ∧ xs = lf 1 l i ∧ σ.keep [0, 1, 2, 9, 10, 13, 53] [.s 9, (.sub (.s 9) 9), (.sub (.s 9) 11)] =
      ⟨[(0, lD .two l), (1, iD 0), (2, iD ((n : Int) - 1)), (9, .c (.ptr (.s 9) 0 0)), (10, iD 1), (13, iD i), (53, iD 1)], clE (.sub (.s 9) 9) (.sub (.s 9) 11) (lf 0 l n) xs⟩, ⟨n, 0, [], by omega, by omega, rfl, rfl⟩, ?_⟩
    rintro σ m ⟨i, xs, hi, rfl, hxs, hσ⟩
    have hxl : xs.length ≤ i := by rw [hxs]; exact lf_len 1 l i
    unfold vcC
    rw [hσ]
    conv => whnf
    intro t (ht : t = decide ((i : Int) ≤ (n : Int) - 1))
    cases t
    · have h : ¬ (i : Int) ≤ (n : Int) - 1 := of_decide_eq_false ht.symm
      obtain rfl : i = n := by omega
      subst hxs
      conv => whnf
      exact ⟨2 - (1 + 1), by omega, 1 + 1, _, _, by omega, rfl, fun h => by omega, fun h => by omega, fun h => ⟨rfl, rfl⟩, rfl⟩
    have h : (i : Int) ≤ (n : Int) - 1 := of_decide_eq_true ht.symm
    have g := h47 1 (.inr rfl) (i : Int)
    have hsu := lf_succ 1 l i
    rw [← hxs] at hsu
    generalize hz : idxP 1 (numV (i : Int)) l 0 = z at g hsu
    have back : ∀ (os : LIS) (len : Nat) (z : Int), os = lf 1 l (i + 1) → len = os.length → z = ((i + 1 : Nat) : Int) →
      (⟨[(0, lD .two l), (1, iD 0), (2, iD ((n : Int) - 1)), (9, .c (.ptr (.s 9) 0 0)), (10, iD 1), (13, iD z), (53, iD 1)], [(.s 9, some (.var [.osl (.sub (.s 9) 9) 0 (lf 0 l n).length, .osl (.sub (.s 9) 11) 0 len])), ((.sub (.s 9) 9), some (.row false .int (lf 0 l n))), ((.sub (.s 9) 11), some (.row false .int os))]⟩ : St TT) =
      ⟨[(0, lD .two l), (1, iD 0), (2, iD ((n : Int) - 1)), (9, .c (.ptr (.s 9) 0 0)), (10, iD 1), (13, iD ((i + 1 : Nat) : Int)), (53, iD 1)], clE (.sub (.s 9) 9) (.sub (.s 9) 11) (lf 0 l n) os⟩ := by rintro _ _ _ rfl rfl rfl; rfl
    conv => whnf
    refine ⟨(⟨by omega, by omega⟩ : (0 : Int) ≤ 0 ∧ (0 : Int) < l.length), fun (u : V × V) (hu : l[(0 : Int).toNat]? = some u) => ?_⟩
    obtain rfl : (numV x0, numV x1) = u := Option.some.inj (hl0.symm.trans hu)
    conv => whnf
    refine ⟨by decide, ?_⟩
    conv => whnf
    refine ⟨[], ?_⟩
    conv => whnf
    refine g _ ?_
    conv => whnf
    intro t (ht : t = decide (z < 0))
    rw [← ht] at hsu
    cases t
    · conv => whnf
      exact ⟨n - (i + 1), by omega, i + 1, xs, by omega, rfl, hsu.symm, back _ _ _ hsu.symm rfl (wrapS _ (by omega) (by omega))⟩
    · conv => whnf
      refine ⟨by decide, ?_⟩
      conv => whnf
      refine ⟨rfl, rfl, ?_⟩
      conv => whnf
      refine ⟨rfl, ?_⟩
      conv => whnf
      refine ⟨(by omega : xs.length + 1 ≤ 68719476736), ?_⟩
      conv => whnf
      refine ⟨by decide, ?_⟩
      conv => whnf
      exact ⟨n - (i + 1), by omega, i + 1, xs ++ [(i : Int)], by omega, rfl, hsu.symm, back _ _ _ hsu.symm (by simp) (wrapS _ (by omega) (by omega))⟩

end Go.Clap
