/- Contracts: the law AlignKept. -/
import Derived.Test.YtnielhfaioakkaaClapV17
set_option linter.unusedVariables false
set_option linter.unusedSimpArgs false
namespace Go.Clap
variable {O : Oracle TT}

set_option maxHeartbeats 2000000 in
theorem vc5_of (x y : LIS) (A B : FL) (l : PL) (fr lost : LIS) (gx : Gives O 8 [lD .int x] (vD (.mk 8 0 nmE A))) (gy : Gives O 8 [lD .int y] (vD (.mk 8 0 nmE B)))
    (g16 : Gives O 16 [vD (.mk 8 0 nmE A), vD (.mk 8 0 nmE B), sD ⟨#[97]⟩] (.tup [lD .pair l, iD 0]))
    (g17 : Gives O 17 [lD .pair l, iD A.length, iD B.length] (.tup [lD .int fr, lD .int lost, iD 0])) (h10 : Gives O 10 [] (bD true))
    (hfl : fr.length = B.length) (hlo : lost.length + l.length = A.length) (hfr : ∀ p ∈ l, (0 ≤ p.2 ∧ p.2 < (B.length : Int)) ∧ fr[p.2.toNat]? = some p.1)
    (h18 : ∀ l : PL, l.length ≤ 19 → ∀ R : RR, (∀ l' : PL, l'.Perm (l.map sw) → SortedP l' → R (lD .pair l') []) → O 18 [lD .pair l] [] R)
    (h19 : ∀ a b : PL, a.length ≤ 1000 → b.length ≤ 1000 → Gives O 19 [lD .pair a, lD .pair b] (lD .pair (compL a b)))
    (h20 : ∀ a b : PL, Gives O 20 [lD .pair a, lD .pair b] (bD (decide (a = b))))
    (hI : ∀ i1 : PL, i1.Perm (l.map sw) → SortedP i1 → (∀ i2 : PL, i2.Perm (i1.map sw) → SortedP i2 → i2 = l) ∧ (compL l i1).length = l.length ∧ (∀ p ∈ compL l i1, p.1 = p.2) ∧
      (∀ (i : Nat) p q, (compL l i1)[i]? = some p → (compL l i1)[i + 1]? = some q → p.1 < q.1))
    (hl : l.length ≤ 7) (lx : A.length ≤ 7) (ly : B.length ≤ 7) (R : RR) (hR : R (bD true) []) : vcF (S := SS) O ir5 [lD .int x, lD .int y] [] R := by
  refine ⟨by show 2 ≤ 129; omega, rfl, ?_⟩
  conv => whnf
  refine ⟨[], ?_⟩
  conv => whnf
  refine gx _ ?_
  conv => whnf
  refine ⟨[], ?_⟩
  conv => whnf
  refine gy _ ?_
  conv => whnf
  refine ⟨[], ?_⟩
  conv => whnf
  refine g16 _ ?_
  conv => whnf
  intro _
  conv => whnf
  intro _
  conv => whnf
  refine ⟨[], ?_⟩
  conv => whnf
  refine g17 _ ?_
  conv => whnf
  refine ⟨[], ?_⟩
  conv => whnf
  refine h10 _ ?_
  conv => whnf
  intro t ht
  obtain rfl : t = false := ht
  conv => whnf
  intro t ht
  obtain rfl : t = false := ht
  conv => whnf
  intro _
  conv => whnf
  intro _
  conv => whnf
  intro t (ht : t = ((fr.length : Int) != B.length))
  have ht : t = false := by rw [ht, hfl]; simp
  subst ht
  conv => whnf
  intro _
  conv => whnf
  intro _
  conv => whnf
  intro _
  conv => whnf
  intro t (ht : t = (IntKind.wrap .i64 ((lost.length : Int) + l.length) != A.length))
  have w1 : IntKind.wrap .i64 ((lost.length : Int) + l.length) = (A.length : Int) := by
    have : ((lost.length : Int) + l.length) = (A.length : Int) := by omega
    rw [this]
    exact wrapS _ (by omega) (by omega)
  have ht : t = false := by rw [ht, w1]; simp
  subst ht
  conv => whnf
  intro (hlen : l.length ≤ 9223372036854775807)
  conv => whnf
  refine ⟨fun σ k => ∃ i : Nat, i ≤ l.length ∧ k = l.length - i ∧ σ.keep [7, 9, 69, 70, 71] [] =
    ⟨[(7, lD .pair l), (9, lD .int fr), (69, lD .pair l), (70, iD l.length), (71, iD i)], []⟩, ⟨l.length, 0, by omega, by omega, rfl⟩, ?_⟩
  rintro σ k ⟨i, hi, rfl, hσ⟩
  unfold vcC
  rw [hσ]
  conv => whnf
  intro t (ht : t = decide ((i : Int) < l.length))
  cases t
  rotate_left
  · have h : (i : Int) < l.length := of_decide_eq_true ht.symm
    have back : ∀ z : Int, z = ((i + 1 : Nat) : Int) → (⟨[(7, lD .pair l), (9, lD .int fr), (69, lD .pair l), (70, iD l.length), (71, iD z)], []⟩ : St TT) =
      ⟨[(7, lD .pair l), (9, lD .int fr), (69, lD .pair l), (70, iD l.length), (71, iD ((i + 1 : Nat) : Int))], []⟩ := by rintro _ rfl; rfl
    conv => whnf
    refine ⟨(⟨by omega, by omega⟩ : (0 : Int) ≤ i ∧ (i : Int) < l.length), fun (p : Int × Int) (hp : l[(i : Int).toNat]? = some p) => ?_⟩
    have hp : l[i]? = some p := by simpa using hp
    obtain ⟨⟨b0, b1⟩, b2⟩ := hfr p (List.mem_of_getElem? hp)
    obtain ⟨a, b⟩ := p
    have b0 : 0 ≤ b := b0
    have b1 : b < (B.length : Int) := b1
    have b2 : fr[b.toNat]? = some a := b2
    conv => whnf
    refine ⟨(⟨b0, by omega⟩ : 0 ≤ b ∧ b < (fr.length : Int)), fun (u : Int) (hu : fr[b.toNat]? = some u) => ?_⟩
    rw [b2] at hu
    obtain rfl := Option.some.inj hu
    conv => whnf
    intro t (ht2 : t = (a != a))
    have ht2 : t = false := by simpa using ht2
    subst ht2
    conv => whnf
    exact ⟨l.length - (i + 1), by omega, i + 1, by omega, rfl, back _ (wrapS _ (by omega) (by omega))⟩
  clear hσ ht
  conv => whnf
  refine ⟨[], ?_⟩
  conv => whnf
  refine h18 l (by omega) _ (fun i1 hp1 hs1 => ?_)
  have h1l : i1.length = l.length := by rw [hp1.length_eq]; simp
  conv => whnf
  refine ⟨[], ?_⟩
  conv => whnf
  refine h18 i1 (by omega) _ (fun i2 hp2 hs2 => ?_)
  obtain rfl := (hI i1 hp1 hs1).1 i2 hp2 hs2
  conv => whnf
  refine ⟨[], ?_⟩
  conv => whnf
  refine h18 i2 (by omega) _ (fun i3 hp3 hs3 => ?_)
  have h3l : i3.length = i2.length := by rw [hp3.length_eq]; simp
  conv => whnf
  refine ⟨[], ?_⟩
  conv => whnf
  refine h19 i2 i3 (by omega) (by omega) _ ?_
  obtain ⟨_, s1, s2, s3⟩ := hI i3 hp3 hs3
  obtain ⟨s, hs⟩ : ∃ s, s = compL i2 i3 := ⟨_, rfl⟩
  rw [← hs] at s1 s2 s3 ⊢
  conv => whnf
  intro _
  conv => whnf
  refine ⟨fun σ k => ∃ i : Nat, i ≤ s.length ∧ k = s.length - i ∧ σ.keep [7, 14, 15, 91, 92, 93] [] =
    ⟨[(7, lD .pair i2), (14, lD .pair i2), (15, lD .pair s), (91, lD .pair s), (92, iD s.length), (93, iD i)], []⟩, ⟨s.length, 0, by omega, by omega, rfl⟩, ?_⟩
  rintro σ k ⟨i, hi, rfl, hσ⟩
  unfold vcC
  rw [hσ]
  conv => whnf
  intro t (ht : t = decide ((i : Int) < s.length))
  cases t
  · conv => whnf
    refine ⟨[], ?_⟩
    conv => whnf
    refine h20 i2 i2 _ ?_
    have e : decide (i2 = i2) = true := decide_eq_true rfl
    rw [e]
    conv => whnf
    intro _
    conv => whnf
    intro _
    conv => whnf
    intro t (ht : t = ((s.length : Int) == i2.length))
    have ht : t = true := by rw [ht, s1]; simp
    subst ht
    exact ⟨[], .nil, hR⟩
  have h : (i : Int) < s.length := of_decide_eq_true ht.symm
  have back : ∀ z : Int, z = ((i + 1 : Nat) : Int) → (⟨[(7, lD .pair i2), (14, lD .pair i2), (15, lD .pair s), (91, lD .pair s), (92, iD s.length), (93, iD z)], []⟩ : St TT) =
    ⟨[(7, lD .pair i2), (14, lD .pair i2), (15, lD .pair s), (91, lD .pair s), (92, iD s.length), (93, iD ((i + 1 : Nat) : Int))], []⟩ := by rintro _ rfl; rfl
  have wi : IntKind.wrap .i64 ((i : Int) + 1) = ((i + 1 : Nat) : Int) := wrapS _ (by omega) (by omega)
  conv => whnf
  refine ⟨(⟨by omega, by omega⟩ : (0 : Int) ≤ i ∧ (i : Int) < s.length), fun (p : Int × Int) (hp : s[(i : Int).toNat]? = some p) => ?_⟩
  have hp : s[i]? = some p := by simpa using hp
  have hpp := s2 p (List.mem_of_getElem? hp)
  obtain ⟨a, b⟩ := p
  obtain rfl : a = b := hpp
  conv => whnf
  intro t (ht2 : t = (a != a))
  have ht2 : t = false := by simpa using ht2
  subst ht2
  conv => whnf
  intro t (ht3 : t = decide ((i : Int) > 0))
  cases t
  · conv => whnf
    exact ⟨s.length - (i + 1), by omega, i + 1, by omega, rfl, back _ wi⟩
  have hpos : (i : Int) > 0 := of_decide_eq_true ht3.symm
  obtain ⟨j, rfl⟩ : ∃ j, i = j + 1 := ⟨i - 1, by omega⟩
  have wj : IntKind.wrap .i64 (((j + 1 : Nat) : Int) - 1) = (j : Int) := by rw [wrapS _ (by omega) (by omega)]; omega
  conv => whnf
  refine ⟨(by rw [wj]; omega : (0 : Int) ≤ IntKind.wrap .i64 (((j + 1 : Nat) : Int) - 1) ∧ IntKind.wrap .i64 (((j + 1 : Nat) : Int) - 1) < s.length), fun (q : Int × Int) (hq : s[(IntKind.wrap .i64 (((j + 1 : Nat) : Int) - 1)).toNat]? = some q) => ?_⟩
  rw [wj, Int.toNat_natCast] at hq
  have hlt := s3 j q (a, a) hq hp
  obtain ⟨c, d⟩ := q
  have hlt : c < a := hlt
  conv => whnf
  intro t (ht4 : t = decide (c ≥ a))
  have ht4 : t = false := by rw [ht4]; exact decide_eq_false (by omega)
  subst ht4
  conv => whnf
  exact ⟨s.length - (j + 1 + 1), by omega, j + 1 + 1, by omega, rfl, back _ wi⟩

end Go.Clap
