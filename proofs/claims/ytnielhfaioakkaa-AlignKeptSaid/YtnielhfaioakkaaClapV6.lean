/- Contracts: a value is well-formed; what two values cost. -/
import Derived.Test.YtnielhfaioakkaaClapV5
set_option linter.unusedVariables false
set_option linter.unusedSimpArgs false
namespace Go.Clap
variable {O : Oracle TT}

theorem vc77 (h99 : ∀ v, Gives O 99 [vD v] (bD (unusedB v))) (h100 : ∀ v, Gives O 100 [vD v] (bD (numberB v))) (h101 : ∀ v, Gives O 101 [vD v] (iD (fieldsI v)))
    (v : V) (root : Bool) (h77 : ∀ x ∈ v.fs, Gives O 77 [vD x.2, bD false] (iD (nodeV x.2 false))) (R : RR) (hR : R (iD (nodeV v root)) []) :
    vcF (S := SS) O ir77 [vD v, bD root] [] R := by
  obtain ⟨k, n, s, l⟩ := v
  refine ⟨by show 2 ≤ 59; omega, rfl, ?_⟩
  rw [nodeV, badK] at hR
  have g99 := h99 (.mk k n s l)
  have g100 := h100 (.mk k n s l)
  have g101 := h101 (.mk k n s l)
  generalize unusedB (.mk k n s l) = u at hR g99
  generalize numberB (.mk k n s l) = nb at hR g100
  generalize fieldsI (.mk k n s l) = fi at hR g101
  cases root
  all_goals repeat' (conv => whnf
                     first
                     | (intro (hl : l.length ≤ 9223372036854775807))
                     | (intro t ht; try rw [← ht] at hR
                        cases t)
                     | exact ⟨[], .nil, hR⟩
                     | (refine ⟨[], ?_⟩
                        conv => whnf
                        first
                        | (refine g99 _ ?_
                           cases u)
                        | (refine g100 _ ?_
                           cases nb)
                        | refine g101 _ ?_))
  all_goals
    refine ⟨fun σ n => ∃ i : Nat, i ≤ l.length ∧ n = l.length - i ∧ nodeFs l = nodeFs (l.drop i) ∧
      σ.keep [46, 47, 48] [] = ⟨[(46, lD .fld l), (47, iD l.length), (48, iD i)], []⟩, ⟨l.length, 0, by omega, by omega, rfl, rfl⟩, ?_⟩
    rintro σ n' ⟨i, hi, rfl, hor, hσ⟩
    unfold vcC
    rw [hσ]
    have hR2 : R (iD (nodeFs l)) [] := hR
    rw [hor] at hR2
    conv => whnf
    intro t (ht : t = decide ((i : Int) < l.length))
    cases t
    · have h : ¬ (i : Int) < l.length := of_decide_eq_false ht.symm
      have h0 : l.drop i = [] := List.drop_eq_nil_of_le (by omega)
      rw [h0, nodeFs] at hR2
      exact ⟨[], .nil, hR2⟩
    · have h : (i : Int) < l.length := of_decide_eq_true ht.symm
      conv => whnf
      refine ⟨(⟨by omega, by omega⟩ : (0 : Int) ≤ i ∧ (i : Int) < l.length), fun (u : ByteArray × V) (hu : l[(i : Int).toNat]? = some u) => ?_⟩
      have hu : l[i]? = some u := by simpa using hu
      have hm := h77 u (List.mem_of_getElem? hu)
      rw [drop_cons hu] at hR2 hor
      obtain ⟨s', k', n', t', fs'⟩ := u
      rw [nodeFs] at hR2 hor
      conv => whnf
      refine ⟨[], ?_⟩
      conv => whnf
      refine hm _ ?_
      conv => whnf
      intro t2 ht2
      have ht2 : t2 = (nodeV (.mk k' n' t' fs') false != 0) := ht2
      rw [← ht2] at hR2 hor
      cases t2
      · refine ⟨l.length - (i + 1), by omega, i + 1, by omega, rfl, hor, ?_⟩
        rw [← wrap_succ (show i < l.length by omega) hl]
        rfl
      · exact ⟨[], .nil, hR2⟩

theorem vc51 (v : V) (h75 : Gives O 75 [vD v] (iD (sizeV v))) (h76 : Gives O 76 [vD v] (iD (deepV v))) (h77 : Gives O 77 [vD v, bD true] (iD (nodeV v true))) (R : RR) (hR : R (iD (checkV v)) []) :
    vcF (S := SS) O ir51 [vD v] [] R := by
  rw [checkV] at hR
  generalize sizeV v = z at hR h75
  generalize deepV v = z2 at hR h76
  generalize nodeV v true = z3 at hR h77
  obtain ⟨k, n, s, fs⟩ := v
  refine ⟨by show 1 ≤ 13; omega, rfl, ?_⟩
  repeat' (conv => whnf
           first
           | (intro t ht; try rw [← ht] at hR
              cases t)
           | exact ⟨[], .nil, hR⟩
           | (refine ⟨[], ?_⟩
              conv => whnf
              first
              | refine h75 _ ?_
              | refine h76 _ ?_
              | refine h77 _ ?_))

def checkL : List V → Int
  | [] => 0
  | v :: rest => cond (checkV v != 0) (checkV v) (cond (v.kind != 8) 8 (checkL rest))

theorem vc31 (h51 : ∀ v, Gives O 51 [vD v] (iD (checkV v))) (a b : V) (R : RR) (hR : R (iD (checkL [a, b])) []) : vcF (S := SS) O ir31 [vD a, vD b] [] R := by
  obtain ⟨l, hl⟩ : ∃ l, l = [a, b] := ⟨_, rfl⟩
  have hlen : l.length = 2 := by rw [hl]; rfl
  rw [← hl] at hR
  have g51 : ∀ v, Gives O 51 [vD v] (iD (checkV v)) := h51
  obtain ⟨k, n, s, fs⟩ := a
  obtain ⟨k2, n2, s2, fs2⟩ := b
  refine ⟨by show 2 ≤ 25; omega, rfl, ?_⟩
  conv => whnf
  intro _
  conv => whnf
  refine ⟨fun σ n => ∃ i : Nat, i ≤ l.length ∧ n = l.length - i ∧ checkL l = checkL (l.drop i) ∧
    σ.keep [10, 11, 12] [] = ⟨[(10, lD .val l), (11, iD 2), (12, iD i)], []⟩, ⟨l.length, 0, by omega, by omega, rfl, by rw [hl]; rfl⟩, ?_⟩
  rintro σ n ⟨i, hi, rfl, hor, hσ⟩
  unfold vcC
  rw [hσ]
  rw [hor] at hR
  conv => whnf
  intro t (ht : t = decide ((i : Int) < 2))
  cases t
  · have h : ¬ (i : Int) < 2 := of_decide_eq_false ht.symm
    have h0 : l.drop i = [] := List.drop_eq_nil_of_le (by omega)
    rw [h0, checkL] at hR
    exact ⟨[], .nil, hR⟩
  · have h : (i : Int) < 2 := of_decide_eq_true ht.symm
    conv => whnf
    refine ⟨(⟨by omega, by omega⟩ : (0 : Int) ≤ i ∧ (i : Int) < l.length), fun (u : V) (hu : l[(i : Int).toNat]? = some u) => ?_⟩
    have hu : l[i]? = some u := by simpa using hu
    rw [drop_cons hu] at hR hor
    rw [checkL] at hR hor
    have g := g51 u
    generalize hc : checkV u = c at g hR hor
    obtain ⟨k', n', t', fs'⟩ := u
    conv => whnf
    refine ⟨[], ?_⟩
    conv => whnf
    refine g _ ?_
    conv => whnf
    intro t2 ht2
    have ht2 : t2 = (c != 0) := ht2
    rw [← ht2] at hR hor
    cases t2
    · conv => whnf
      intro t3 ht3
      have ht3 : t3 = ((V.mk k' n' t' fs').kind != 8) := ht3
      rw [← ht3] at hR hor
      cases t3
      · refine ⟨l.length - (i + 1), by omega, i + 1, by omega, rfl, hor, ?_⟩
        rw [← wrap_succ (show i < l.length by omega) (show l.length ≤ 9223372036854775807 by omega)]
        rfl
      · exact ⟨[], .nil, hR⟩
    · exact ⟨[], .nil, hR⟩

/-- What the fields of two records cost. -/
def costAcc : Int → List (ByteArray × V) → List (ByteArray × V) → Int
  | n, f :: fs, g :: gs => cond (!(f.1.toList == g.1.toList)) 3 (costAcc (cond (!decide (cmpV f.2 g.2 = 0)) (IntKind.wrap .i64 (n + 1)) n) fs gs)
  | n, _, _ => if 3 < n then 3 else n
def costV (v w : V) : Int :=
  cond (decide (cmpV v w = 0)) 0 (cond (v.kind != 6 || (w.kind != 6 || (v.fs.length : Int) != w.fs.length)) 3 (costAcc 0 v.fs w.fs))

theorem vc33 (h11 : ∀ a b, Gives O 11 [vD a, vD b] (bD (decide (cmpV a b = 0)))) (v w : V) (R : RR) (hR : R (iD (costV v w)) []) : vcF (S := SS) O ir33 [vD v, vD w] [] R := by
  rw [costV] at hR
  have g := h11 v w
  generalize decide (cmpV v w = 0) = c at hR g
  obtain ⟨k, n, s, xs⟩ := v
  obtain ⟨k2, n2, s2, ys⟩ := w
  replace hR : R (iD (cond c 0 (cond (k != 6 || (k2 != 6 || (xs.length : Int) != ys.length)) 3 (costAcc 0 xs ys)))) [] := hR
  refine ⟨by show 2 ≤ 60; omega, rfl, ?_⟩
  repeat' (conv => whnf
           first
           | (intro (hl : xs.length ≤ 9223372036854775807))
           | (intro (hl2 : ys.length ≤ 9223372036854775807))
           | (intro t ht; try rw [← ht] at hR
              cases t)
           | exact ⟨[], .nil, hR⟩
           | (refine ⟨[], ?_⟩
              conv => whnf
              refine g _ ?_
              cases c))
  have heq : xs.length = ys.length := by
    have ht : false = ((xs.length : Int) != ys.length) := ht
    have := ht.symm
    simp at this
    omega
  replace hR : R (iD (costAcc 0 xs ys)) [] := hR
  refine ⟨fun σ n => ∃ (i : Nat) (m : Int), i ≤ xs.length ∧ n = xs.length - i ∧ costAcc 0 xs ys = costAcc m (xs.drop i) (ys.drop i) ∧
    σ.keep [3, 5, 29, 30, 31] [.s 3] = ⟨[(3, .c (.ptr (.s 3) 0 0)), (5, iD m), (29, lD .fld xs), (30, iD xs.length), (31, iD i)], [(.s 3, some (.var (rowV (.mk k2 n2 s2 ys))))]⟩, ⟨xs.length, 0, 0, by omega, by omega, rfl, rfl⟩, ?_⟩
  rintro σ n' ⟨i, m, hi, rfl, hor, hσ⟩
  unfold vcC
  rw [hσ]
  rw [hor] at hR
  conv => whnf
  intro t (ht : t = decide ((i : Int) < xs.length))
  cases t
  · have h : ¬ (i : Int) < xs.length := of_decide_eq_false ht.symm
    have h0 : xs.drop i = [] := List.drop_eq_nil_of_le (by omega)
    have h1 : ys.drop i = [] := List.drop_eq_nil_of_le (by omega)
    rw [h0, h1] at hR
    conv => whnf
    exact ⟨[], .nil, hR⟩
  · have h : (i : Int) < xs.length := of_decide_eq_true ht.symm
    conv => whnf
    refine ⟨(⟨by omega, by omega⟩ : (0 : Int) ≤ i ∧ (i : Int) < xs.length), fun (u : ByteArray × V) (hu : xs[(i : Int).toNat]? = some u) => ?_⟩
    have hu : xs[i]? = some u := by simpa using hu
    obtain ⟨y, hy⟩ : ∃ y, ys[i]? = some y := ⟨ys[i], List.getElem?_eq_getElem (by omega)⟩
    rw [drop_cons hu, drop_cons hy, costAcc] at hR hor
    have g := h11 u.2 y.2
    obtain ⟨s1, k1, n1, t1, fs1⟩ := u
    obtain ⟨s3, k3, n3, t3, fs3⟩ := y
    conv => whnf
    refine ⟨(⟨by omega, by omega⟩ : (0 : Int) ≤ i ∧ (i : Int) < ys.length), fun (y' : ByteArray × V) (hy' : ys[(i : Int).toNat]? = some y') => ?_⟩
    obtain rfl : (s3, V.mk k3 n3 t3 fs3) = y' := by simpa [hy] using hy'
    conv => whnf
    intro t2 ht2
    have ht2 : t2 = (!(s1.toList == s3.toList)) := ht2
    rw [show ((s1, V.mk k1 n1 t1 fs1) : ByteArray × V).1 = s1 from rfl, show ((s3, V.mk k3 n3 t3 fs3) : ByteArray × V).1 = s3 from rfl, ← ht2] at hR hor
    cases t2
    rotate_left
    · exact ⟨[], .nil, hR⟩
    conv => whnf
    refine ⟨(⟨by omega, by omega⟩ : (0 : Int) ≤ i ∧ (i : Int) < ys.length), fun (y' : ByteArray × V) (hy' : ys[(i : Int).toNat]? = some y') => ?_⟩
    obtain rfl : (s3, V.mk k3 n3 t3 fs3) = y' := by simpa [hy] using hy'
    conv => whnf
    refine ⟨[], ?_⟩
    conv => whnf
    refine g _ ?_
    generalize decide (cmpV ((s1, V.mk k1 n1 t1 fs1) : ByteArray × V).2 ((s3, V.mk k3 n3 t3 fs3) : ByteArray × V).2 = 0) = q at hR hor ⊢
    cases q
    · conv => whnf
      refine ⟨xs.length - (i + 1), by omega, i + 1, IntKind.wrap .i64 (m + 1), by omega, rfl, hor, ?_⟩
      rw [← wrap_succ (show i < xs.length by omega) hl]
      rfl
    · conv => whnf
      refine ⟨xs.length - (i + 1), by omega, i + 1, m, by omega, rfl, hor, ?_⟩
      rw [← wrap_succ (show i < xs.length by omega) hl]
      rfl

end Go.Clap
