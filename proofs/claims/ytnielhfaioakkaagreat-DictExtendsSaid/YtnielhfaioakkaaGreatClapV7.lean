/- Contracts: the table of an alignment's costs. -/
import Derived.Test.YtnielhfaioakkaaGreatClapI2
set_option linter.unusedVariables false
set_option linter.unusedSimpArgs false
namespace Go.Clap
variable {O : Oracle TT}

abbrev FL := List (ByteArray × V)
/-- The least cost of an alignment. -/
def distL : FL → FL → Int
  | [], bs => 2 * bs.length
  | _ :: as, [] => 2 * (as.length + 1)
  | a :: as, b :: bs => min (min (distL as bs + costV a.2 b.2) (distL as (b :: bs) + 2)) (distL (a :: as) bs + 2)
termination_by as bs => as.length + bs.length

def rwT (xs ys : FL) (r : Nat) : List Int := (List.range (ys.length + 1)).map fun k => distL (xs.drop r) (ys.drop k)
def rwP (xs ys : FL) (r q : Nat) : List Int := (List.range (ys.length + 1)).map fun k => if q ≤ k then distL (xs.drop r) (ys.drop k) else 0
def rwsT (xs ys : FL) (j : Nat) : List (List Int) := (List.range (xs.length + 1)).map fun r => if j ≤ r then rwT xs ys r else []

theorem rwT_len (xs ys : FL) (r : Nat) : (rwT xs ys r).length = ys.length + 1 := by simp [rwT]
theorem rwP_len (xs ys : FL) (r q : Nat) : (rwP xs ys r q).length = ys.length + 1 := by simp [rwP]
theorem rwsT_len (xs ys : FL) (j : Nat) : (rwsT xs ys j).length = xs.length + 1 := by simp [rwsT]
theorem rwT_get (xs ys : FL) (r k : Nat) (h : k < ys.length + 1) : (rwT xs ys r)[k]? = some (distL (xs.drop r) (ys.drop k)) := by
  simp [rwT, List.getElem?_map, List.getElem?_range h]
theorem rwP_get (xs ys : FL) (r q k : Nat) (h : k < ys.length + 1) (hq : q ≤ k) : (rwP xs ys r q)[k]? = some (distL (xs.drop r) (ys.drop k)) := by
  simp [rwP, List.getElem?_map, List.getElem?_range h, hq]
theorem rwsT_get (xs ys : FL) (j r : Nat) (h : r < xs.length + 1) (hj : j ≤ r) : (rwsT xs ys j)[r]? = some (rwT xs ys r) := by
  simp [rwsT, List.getElem?_map, List.getElem?_range h, hj]
theorem rwP_zero (xs ys : FL) (r : Nat) : rwP xs ys r 0 = rwT xs ys r := by simp [rwP, rwT]
theorem rwP_top (xs ys : FL) (r : Nat) : rwP xs ys r (ys.length + 1) = List.replicate (ys.length + 1) 0 := by
  apply List.ext_getElem?
  intro i
  by_cases h : i < ys.length + 1
  · simp [rwP, List.getElem?_map, List.getElem?_range h, List.getElem?_replicate, h]; omega
  · rw [List.getElem?_eq_none (by rw [rwP_len]; omega), List.getElem?_eq_none (by simp; omega)]
theorem rwsT_top (xs ys : FL) : rwsT xs ys (xs.length + 1) = List.replicate (xs.length + 1) [] := by
  apply List.ext_getElem?
  intro i
  by_cases h : i < xs.length + 1
  · simp [rwsT, List.getElem?_map, List.getElem?_range h, List.getElem?_replicate, h]; omega
  · rw [List.getElem?_eq_none (by rw [rwsT_len]; omega), List.getElem?_eq_none (by simp; omega)]
theorem rwP_set (xs ys : FL) (r k : Nat) (h : k < ys.length + 1) : (rwP xs ys r (k + 1)).set k (distL (xs.drop r) (ys.drop k)) = rwP xs ys r k := by
  apply List.ext_getElem?
  intro i
  by_cases hi : i < ys.length + 1
  · rw [List.getElem?_set]
    by_cases e : k = i
    · subst e
      rw [if_pos rfl, if_pos (by rw [rwP_len]; exact hi), rwP_get xs ys r k k hi (Nat.le_refl _)]
    · rw [if_neg e]
      have : (k + 1 ≤ i) ↔ k ≤ i := by omega
      simp [rwP, List.getElem?_map, List.getElem?_range hi, this]
  · rw [List.getElem?_eq_none (by simp [rwP_len]; omega), List.getElem?_eq_none (by rw [rwP_len]; omega)]
theorem rwsT_set (xs ys : FL) (j : Nat) (h : j < xs.length + 1) : (rwsT xs ys (j + 1)).set j (rwT xs ys j) = rwsT xs ys j := by
  apply List.ext_getElem?
  intro i
  by_cases hi : i < xs.length + 1
  · rw [List.getElem?_set]
    by_cases e : j = i
    · subst e
      rw [if_pos rfl, if_pos (by rw [rwsT_len]; exact hi), rwsT_get xs ys j j hi (Nat.le_refl _)]
    · rw [if_neg e]
      have : (j + 1 ≤ i) ↔ j ≤ i := by omega
      simp [rwsT, List.getElem?_map, List.getElem?_range hi, this]
  · rw [List.getElem?_eq_none (by simp [rwsT_len]; omega), List.getElem?_eq_none (by rw [rwsT_len]; omega)]

/-- All costs are small. -/
def CostOk (xs ys : FL) : Prop := ∀ a ∈ xs, ∀ b ∈ ys, 0 ≤ costV a.2 b.2 ∧ costV a.2 b.2 ≤ 3

theorem distL_bound : ∀ (xs ys : FL), CostOk xs ys → 0 ≤ distL xs ys ∧ distL xs ys ≤ 2 * (xs.length + ys.length)
  | [], ys, _ => by rw [distL]; simp; omega
  | x :: xs, [], _ => by rw [distL]; simp; omega
  | x :: xs, y :: ys, h => by
    have h1 := distL_bound xs ys (fun a ha b hb => h a (List.mem_cons_of_mem _ ha) b (List.mem_cons_of_mem _ hb))
    have h2 := distL_bound xs (y :: ys) (fun a ha b hb => h a (List.mem_cons_of_mem _ ha) b hb)
    have h3 := distL_bound (x :: xs) ys (fun a ha b hb => h a ha b (List.mem_cons_of_mem _ hb))
    have h4 := h x (List.mem_cons_self ..) y (List.mem_cons_self ..)
    rw [distL]
    simp only [List.length_cons] at *
    omega
termination_by xs ys => xs.length + ys.length

theorem distL_nilL (bs : FL) : distL [] bs = 2 * bs.length := by rw [distL]
theorem distL_nilR (as : FL) : distL as [] = 2 * as.length := by
  cases as with
  | nil => rw [distL]
  | cons a as => rw [distL]; simp

theorem distL_drop (xs ys : FL) (h : CostOk xs ys) (i k : Nat) : 0 ≤ distL (xs.drop i) (ys.drop k) ∧ distL (xs.drop i) (ys.drop k) ≤ 2 * (xs.length + ys.length) := by
  have := distL_bound (xs.drop i) (ys.drop k) (fun a ha b hb => h a (List.mem_of_mem_drop ha) b (List.mem_of_mem_drop hb))
  simp at this
  omega

theorem wrapS (x : Int) (h1 : -9223372036854775808 ≤ x) (h2 : x ≤ 9223372036854775807) : IntKind.wrap .i64 x = x := by
  rw [IntKind.wrap_i64]; omega

theorem distL_cons (a b : ByteArray × V) (as bs : FL) : distL (a :: as) (b :: bs) = min (min (distL as bs + costV a.2 b.2) (distL as (b :: bs) + 2)) (distL (a :: as) bs + 2) := by rw [distL]
theorem min3 (u1 u2 u3 c : Int) (h1 : 0 ≤ u1) (h1' : u1 ≤ 9223372036854775000) (h2 : 0 ≤ u2) (h2' : u2 ≤ 9223372036854775000) (h3 : 0 ≤ u3) (h3' : u3 ≤ 9223372036854775000) (h4 : 0 ≤ c) (h4' : c ≤ 3) :
    (if IntKind.wrap .i64 (u3 + 2) < (if IntKind.wrap .i64 (u2 + 2) < IntKind.wrap .i64 (u1 + c) then IntKind.wrap .i64 (u2 + 2) else IntKind.wrap .i64 (u1 + c)) then IntKind.wrap .i64 (u3 + 2)
      else (if IntKind.wrap .i64 (u2 + 2) < IntKind.wrap .i64 (u1 + c) then IntKind.wrap .i64 (u2 + 2) else IntKind.wrap .i64 (u1 + c))) = min (min (u1 + c) (u2 + 2)) (u3 + 2) := by
  rw [wrapS (u3 + 2) (by omega) (by omega), wrapS (u2 + 2) (by omega) (by omega), wrapS (u1 + c) (by omega) (by omega)]
  split <;> split <;> omega

set_option maxHeartbeats 1000000 in
theorem vc32 (h33 : ∀ a b, Gives O 33 [vD a, vD b] (iD (costV a b))) (xs ys : FL) (hx : xs.length ≤ 100000) (hy : ys.length ≤ 100000) (hc : CostOk xs ys) (R : RR) (hR : R (lD .ints (rwsT xs ys 0)) []) :
    vcF (S := SS) O ir32 [lD .fld xs, lD .fld ys] [] R := by
  refine ⟨by show 2 ≤ 110; omega, rfl, ?_⟩
  have w1 : IntKind.wrap .i64 ((xs.length : Int) + 1) = ((xs.length + 1 : Nat) : Int) := by rw [wrapS] <;> omega
  have w2 : IntKind.wrap .i64 ((ys.length : Int) + 1) = ((ys.length + 1 : Nat) : Int) := by rw [wrapS] <;> omega
  conv => whnf
  intro _
  conv => whnf
  refine ⟨(by rw [w1]; omega : (0 : Int) ≤ IntKind.wrap .i64 ((xs.length : Int) + 1) ∧ IntKind.wrap .i64 ((xs.length : Int) + 1) ≤ (68719476736 : Nat)), ?_⟩
  conv => whnf
  intro _
  conv => whnf
  refine ⟨rwsT xs ys (xs.length + 1), ?_, rfl, ?_, ?_⟩
  · rw [rwsT_top, w1]
    simp [rowC]
  · rw [w1]; simp
  conv => whnf
  refine ⟨fun σ n => ∃ j : Nat, j ≤ xs.length + 1 ∧ n = j ∧
    σ.keep [0, 1, 5, 6] [.s 11] = ⟨[(0, lD .fld xs), (1, lD .fld ys), (5, .c (.osl (.s 11) 0 (xs.length + 1))), (6, iD ((j : Int) - 1))], [(.s 11, some (.tab .int (rwsT xs ys j) none))]⟩,
    ⟨xs.length + 1, xs.length + 1, by omega, rfl, ?_⟩, ?_⟩
  · have e1 : (IntKind.wrap .i64 ((xs.length : Int) + 1)).toNat = xs.length + 1 := by rw [w1]; simp
    have e2 : (((xs.length + 1 : Nat) : Int) - 1) = (xs.length : Int) := by omega
    rw [e2, ← e1]
    rfl
  rintro σ n ⟨j, hj, rfl, hσ⟩
  unfold vcC
  rw [hσ]
  conv => whnf
  intro t (ht : t = decide ((n : Int) - 1 ≥ 0))
  cases t
  · have hj0 : n = 0 := by have := of_decide_eq_false ht.symm; omega
    subst hj0
    conv => whnf
    refine ⟨rwsT xs ys 0, rfl, rfl, ?_⟩
    conv => whnf
    refine ⟨(by rw [rwsT_len]; omega : 0 + (xs.length + 1) ≤ (rwsT xs ys 0).length), ?_⟩
    conv => whnf
    refine ⟨[], .nil, ?_⟩
    have h0 : ((rwsT xs ys 0).drop 0).take (xs.length + 1) = rwsT xs ys 0 := by
      rw [List.drop_zero, List.take_of_length_le (by rw [rwsT_len]; omega)]
    have key : ∀ X : List (List Int), X = rwsT xs ys 0 → R (lD .ints X) [] := by rintro X rfl; exact hR
    exact key _ h0
  have hj1 : 1 ≤ n := by have := of_decide_eq_true ht.symm; omega
  obtain ⟨p, rfl⟩ : ∃ p, n = p + 1 := ⟨n - 1, by omega⟩
  have ep : (((p + 1 : Nat) : Int) - 1) = (p : Int) := by omega
  rw [ep] at *
  clear ht
  conv => whnf
  intro _
  conv => whnf
  refine ⟨(by rw [w2]; omega : (0 : Int) ≤ IntKind.wrap .i64 ((ys.length : Int) + 1) ∧ IntKind.wrap .i64 ((ys.length : Int) + 1) ≤ (68719476736 : Nat)), ?_⟩
  conv => whnf
  refine ⟨(⟨by omega, by omega⟩ : (0 : Int) ≤ p ∧ (p : Int) < ((xs.length + 1 : Nat) : Int)), ?_⟩
  conv => whnf
  have rl : (rwsT xs ys (p + 1)).length = xs.length + 1 := rwsT_len xs ys (p + 1)
  refine ⟨(by rw [rl]; simp; omega : 0 + (p : Int).toNat < (rwsT xs ys (p + 1)).length), ?_⟩
  conv => whnf
  intro _
  conv => whnf
  refine ⟨fun σ n => ∃ q : Nat, q ≤ ys.length + 1 ∧ n = q ∧
    σ.keep [0, 1, 5, 6, 7] [.s 11, .s 23] = ⟨[(0, lD .fld xs), (1, lD .fld ys), (5, .c (.osl (.s 11) 0 (xs.length + 1))), (6, iD p), (7, iD ((q : Int) - 1))],
      [(.s 11, some (.tab .int (rwsT xs ys (p + 1)) (some (p, some (.s 23, ys.length + 1))))), (.s 23, some (.row false .int (rwP xs ys p q)))]⟩,
    ⟨ys.length + 1, ys.length + 1, by omega, rfl, ?_⟩, ?_⟩
  · have key : ∀ (pp qq : Nat) (l : List Int) (z : Int), pp = p → qq = ys.length + 1 → l = rwP xs ys p (ys.length + 1) → z = ((ys.length + 1 : Nat) : Int) - 1 →
        (⟨[(0, lD .fld xs), (1, lD .fld ys), (5, .c (.osl (.s 11) 0 (xs.length + 1))), (6, iD p), (7, iD z)],
          [(.s 11, some (.tab .int (rwsT xs ys (p + 1)) (some (pp, some (.s 23, qq))))), (.s 23, some (.row false .int l))]⟩ : St TT) =
        ⟨[(0, lD .fld xs), (1, lD .fld ys), (5, .c (.osl (.s 11) 0 (xs.length + 1))), (6, iD p), (7, iD (((ys.length + 1 : Nat) : Int) - 1))],
          [(.s 11, some (.tab .int (rwsT xs ys (p + 1)) (some (p, some (.s 23, ys.length + 1))))), (.s 23, some (.row false .int (rwP xs ys p (ys.length + 1))))]⟩ := by
      rintro _ _ _ _ rfl rfl rfl rfl; rfl
    exact key _ _ _ _ (by simp) (by rw [w2]; simp) (by rw [rwP_top, w2]; simp) (by omega)
  rintro σ n ⟨q, hq, rfl, hσ⟩
  unfold vcC
  rw [hσ]
  conv => whnf
  intro t (ht : t = decide ((n : Int) - 1 ≥ 0))
  cases t
  · have hj0 : n = 0 := by have := of_decide_eq_false ht.symm; omega
    subst hj0
    conv => whnf
    refine ⟨(by rw [rwP_len]; omega : ys.length + 1 ≤ (rwP xs ys p 0).length), rfl, ?_⟩
    conv => whnf
    refine ⟨p, by omega, p, by omega, rfl, ?_⟩
    have key : ∀ (l : List (List Int)) (z : Int), l = rwsT xs ys p → z = (p : Int) - 1 →
        (⟨[(0, lD .fld xs), (1, lD .fld ys), (5, .c (.osl (.s 11) 0 (xs.length + 1))), (6, iD z)], [(.s 11, some (.tab .int l none))]⟩ : St TT) =
        ⟨[(0, lD .fld xs), (1, lD .fld ys), (5, .c (.osl (.s 11) 0 (xs.length + 1))), (6, iD ((p : Int) - 1))], [(.s 11, some (.tab .int (rwsT xs ys p) none))]⟩ := by
      rintro _ _ rfl rfl; rfl
    exact key _ _ (by rw [List.take_of_length_le (by rw [rwP_len]; omega), rwP_zero]; exact rwsT_set xs ys p (by omega)) (wrapS _ (by omega) (by omega))
  have hj1 : 1 ≤ n := by have := of_decide_eq_true ht.symm; omega
  obtain ⟨k, rfl⟩ : ∃ p, n = p + 1 := ⟨n - 1, by omega⟩
  have ek : (((k + 1 : Nat) : Int) - 1) = (k : Int) := by omega
  rw [ek] at *
  clear ht
  -- behind a round
  have fin : ∀ (e : Nat) (v : Int) (z : Int), e = k → v = distL (xs.drop p) (ys.drop k) → z = (k : Int) - 1 →
      (⟨[(0, lD .fld xs), (1, lD .fld ys), (5, .c (.osl (.s 11) 0 (xs.length + 1))), (6, iD p), (7, iD z)],
        [(.s 11, some (.tab .int (rwsT xs ys (p + 1)) (some (p, some (.s 23, ys.length + 1))))), (.s 23, some (.row false .int ((rwP xs ys p (k + 1)).set e v)))]⟩ : St TT) =
      ⟨[(0, lD .fld xs), (1, lD .fld ys), (5, .c (.osl (.s 11) 0 (xs.length + 1))), (6, iD p), (7, iD ((k : Int) - 1))],
        [(.s 11, some (.tab .int (rwsT xs ys (p + 1)) (some (p, some (.s 23, ys.length + 1))))), (.s 23, some (.row false .int (rwP xs ys p k)))]⟩ := by
    rintro _ _ _ rfl rfl rfl
    rw [rwP_set xs ys p _ (by omega)]
  have wk : IntKind.wrap .i64 ((k : Int) - 1) = (k : Int) - 1 := wrapS _ (by omega) (by omega)
  conv => whnf
  intro _
  conv => whnf
  intro t (ht : t = ((p : Int) == xs.length))
  cases t
  rotate_left
  · have hpx : p = xs.length := by have := ht.symm; simp at this; omega
    conv => whnf
    refine ⟨(⟨by omega, by omega⟩ : (0 : Int) ≤ p ∧ (p : Int) < ((xs.length + 1 : Nat) : Int)), ?_⟩
    conv => whnf
    refine ⟨(by rw [rl]; simp; omega : 0 + (p : Int).toNat < (rwsT xs ys (p + 1)).length), ?_⟩
    conv => whnf
    refine ⟨fun _ => ?_, fun hne => absurd (by simp : 0 + (p : Int).toNat = p) hne⟩
    conv => whnf
    intro _
    conv => whnf
    refine ⟨(⟨by omega, by omega⟩ : (0 : Int) ≤ k ∧ (k : Int) < ((ys.length + 1 : Nat) : Int)), ?_⟩
    conv => whnf
    refine ⟨(by rw [rwP_len]; simp; omega : 0 + (k : Int).toNat < (rwP xs ys p (k + 1)).length), fun x _ => ?_⟩
    conv => whnf
    refine ⟨_, rfl, ?_⟩
    conv => whnf
    refine ⟨k, by omega, k, by omega, rfl, fin _ _ _ (by simp) ?_ wk⟩
    rw [hpx, List.drop_length, distL_nilL, List.length_drop, wrapS ((ys.length : Int) - k) (by omega) (by omega), wrapS _ (by omega) (by omega)]
    omega
  have hpx : p < xs.length := by have := ht.symm; simp at this; omega
  conv => whnf
  intro _
  conv => whnf
  intro t (ht : t = ((k : Int) == ys.length))
  cases t
  rotate_left
  · have hky : k = ys.length := by have := ht.symm; simp at this; omega
    conv => whnf
    refine ⟨(⟨by omega, by omega⟩ : (0 : Int) ≤ p ∧ (p : Int) < ((xs.length + 1 : Nat) : Int)), ?_⟩
    conv => whnf
    refine ⟨(by rw [rl]; simp; omega : 0 + (p : Int).toNat < (rwsT xs ys (p + 1)).length), ?_⟩
    conv => whnf
    refine ⟨fun _ => ?_, fun hne => absurd (by simp : 0 + (p : Int).toNat = p) hne⟩
    conv => whnf
    intro _
    conv => whnf
    refine ⟨(⟨by omega, by omega⟩ : (0 : Int) ≤ k ∧ (k : Int) < ((ys.length + 1 : Nat) : Int)), ?_⟩
    conv => whnf
    refine ⟨(by rw [rwP_len]; simp; omega : 0 + (k : Int).toNat < (rwP xs ys p (k + 1)).length), fun x _ => ?_⟩
    conv => whnf
    refine ⟨_, rfl, ?_⟩
    conv => whnf
    refine ⟨k, by omega, k, by omega, rfl, fin _ _ _ (by simp) ?_ wk⟩
    rw [hky, List.drop_length, distL_nilR, List.length_drop, wrapS ((xs.length : Int) - p) (by omega) (by omega), wrapS _ (by omega) (by omega)]
    omega
  have hky : k < ys.length := by have := ht.symm; simp at this; omega
  have wp1 : IntKind.wrap .i64 ((p : Int) + 1) = ((p + 1 : Nat) : Int) := wrap_succ hpx (by omega)
  have wk1 : IntKind.wrap .i64 ((k : Int) + 1) = ((k + 1 : Nat) : Int) := wrap_succ hky (by omega)
  conv => whnf
  refine ⟨(⟨by omega, by omega⟩ : (0 : Int) ≤ p ∧ (p : Int) < ((xs.length + 1 : Nat) : Int)), ?_⟩
  conv => whnf
  refine ⟨(by rw [rl]; simp; omega : 0 + (p : Int).toNat < (rwsT xs ys (p + 1)).length), ?_⟩
  conv => whnf
  refine ⟨fun _ => ?_, fun hne => absurd (by simp : 0 + (p : Int).toNat = p) hne⟩
  conv => whnf
  refine ⟨(by rw [wp1]; omega : (0 : Int) ≤ IntKind.wrap .i64 ((p : Int) + 1) ∧ IntKind.wrap .i64 ((p : Int) + 1) < ((xs.length + 1 : Nat) : Int)), ?_⟩
  conv => whnf
  refine ⟨(by rw [rl, wp1]; omega : 0 + (IntKind.wrap .i64 ((p : Int) + 1)).toNat < (rwsT xs ys (p + 1)).length), ?_⟩
  conv => whnf
  refine ⟨fun he => absurd he (by rw [wp1]; omega), fun _ r (hr : (rwsT xs ys (p + 1))[0 + (IntKind.wrap .i64 ((p : Int) + 1)).toNat]? = some r) => ?_⟩
  have hh : rwT xs ys (p + 1) = r := by
    have q0 := rwsT_get xs ys (p + 1) (p + 1) (by omega) (Nat.le_refl _)
    rw [wp1, Int.toNat_natCast, Nat.zero_add, q0] at hr
    exact Option.some.inj hr
  subst hh
  conv => whnf
  refine ⟨(by rw [wk1, rwT_len]; omega : (0 : Int) ≤ IntKind.wrap .i64 ((k : Int) + 1) ∧ IntKind.wrap .i64 ((k : Int) + 1) < ((rwT xs ys (p + 1)).length : Int)), fun (u1 : Int) (hu1 : (rwT xs ys (p + 1))[(IntKind.wrap .i64 ((k : Int) + 1)).toNat]? = some u1) => ?_⟩
  have d1 : u1 = distL (xs.drop (p + 1)) (ys.drop (k + 1)) := by
    rw [wk1, Int.toNat_natCast, rwT_get xs ys (p + 1) (k + 1) (by omega)] at hu1
    exact (Option.some.inj hu1).symm
  conv => whnf
  refine ⟨(⟨by omega, by omega⟩ : (0 : Int) ≤ p ∧ (p : Int) < xs.length), fun (x : ByteArray × V) (hx1 : xs[(p : Int).toNat]? = some x) => ?_⟩
  have hx1 : xs[p]? = some x := by simpa using hx1
  have dx := drop_cons hx1
  have mx := List.mem_of_getElem? hx1
  obtain ⟨sx, kx, nx, tx, fx⟩ := x
  conv => whnf
  refine ⟨(⟨by omega, by omega⟩ : (0 : Int) ≤ k ∧ (k : Int) < ys.length), fun (y : ByteArray × V) (hy1 : ys[(k : Int).toNat]? = some y) => ?_⟩
  have hy1 : ys[k]? = some y := by simpa using hy1
  have dy := drop_cons hy1
  have my := List.mem_of_getElem? hy1
  obtain ⟨sy, ky, ny, ty, fy⟩ := y
  conv => whnf
  refine ⟨(by rw [wp1]; omega : (0 : Int) ≤ IntKind.wrap .i64 ((p : Int) + 1) ∧ IntKind.wrap .i64 ((p : Int) + 1) < ((xs.length + 1 : Nat) : Int)), ?_⟩
  conv => whnf
  refine ⟨(by rw [rl, wp1]; omega : 0 + (IntKind.wrap .i64 ((p : Int) + 1)).toNat < (rwsT xs ys (p + 1)).length), ?_⟩
  conv => whnf
  refine ⟨fun he => absurd he (by rw [wp1]; omega), fun _ r (hr : (rwsT xs ys (p + 1))[0 + (IntKind.wrap .i64 ((p : Int) + 1)).toNat]? = some r) => ?_⟩
  have hh : rwT xs ys (p + 1) = r := by
    have q0 := rwsT_get xs ys (p + 1) (p + 1) (by omega) (Nat.le_refl _)
    rw [wp1, Int.toNat_natCast, Nat.zero_add, q0] at hr
    exact Option.some.inj hr
  subst hh
  conv => whnf
  refine ⟨(by rw [rwT_len]; omega : (0 : Int) ≤ k ∧ (k : Int) < ((rwT xs ys (p + 1)).length : Int)), fun (u2 : Int) (hu2 : (rwT xs ys (p + 1))[(k : Int).toNat]? = some u2) => ?_⟩
  have d2 : u2 = distL (xs.drop (p + 1)) (ys.drop k) := by
    rw [Int.toNat_natCast, rwT_get xs ys (p + 1) k (by omega)] at hu2
    exact (Option.some.inj hu2).symm
  conv => whnf
  refine ⟨(⟨by omega, by omega⟩ : (0 : Int) ≤ p ∧ (p : Int) < ((xs.length + 1 : Nat) : Int)), ?_⟩
  conv => whnf
  refine ⟨(by rw [rl]; simp; omega : 0 + (p : Int).toNat < (rwsT xs ys (p + 1)).length), ?_⟩
  conv => whnf
  refine ⟨fun _ => ?_, fun hne => absurd (by simp : 0 + (p : Int).toNat = p) hne⟩
  conv => whnf
  refine ⟨(by rw [wk1]; omega : (0 : Int) ≤ IntKind.wrap .i64 ((k : Int) + 1) ∧ IntKind.wrap .i64 ((k : Int) + 1) < ((ys.length + 1 : Nat) : Int)), ?_⟩
  conv => whnf
  refine ⟨(by rw [rwP_len, wk1]; omega : 0 + (IntKind.wrap .i64 ((k : Int) + 1)).toNat < (rwP xs ys p (k + 1)).length), fun (u3 : Int) (hu3 : (rwP xs ys p (k + 1))[0 + (IntKind.wrap .i64 ((k : Int) + 1)).toNat]? = some u3) => ?_⟩
  have d3 : u3 = distL (xs.drop p) (ys.drop (k + 1)) := by
    rw [wk1, Int.toNat_natCast, Nat.zero_add, rwP_get xs ys p (k + 1) (k + 1) (by omega) (Nat.le_refl _)] at hu3
    exact (Option.some.inj hu3).symm
  conv => whnf
  refine ⟨[], ?_⟩
  conv => whnf
  refine h33 (.mk kx nx tx fx) (.mk ky ny ty fy) _ ?_
  have hcc := hc _ mx _ my
  have b1 := distL_drop xs ys hc (p + 1) (k + 1)
  have b2 := distL_drop xs ys hc (p + 1) k
  have b3 := distL_drop xs ys hc p (k + 1)
  have hval : ∀ c, c = costV (.mk kx nx tx fx) (.mk ky ny ty fy) →
      (if IntKind.wrap .i64 (u3 + 2) < (if IntKind.wrap .i64 (u2 + 2) < IntKind.wrap .i64 (u1 + c) then IntKind.wrap .i64 (u2 + 2) else IntKind.wrap .i64 (u1 + c)) then IntKind.wrap .i64 (u3 + 2)
        else (if IntKind.wrap .i64 (u2 + 2) < IntKind.wrap .i64 (u1 + c) then IntKind.wrap .i64 (u2 + 2) else IntKind.wrap .i64 (u1 + c))) = distL (xs.drop p) (ys.drop k) := by
    rintro c rfl
    have e := distL_cons (sx, V.mk kx nx tx fx) (sy, V.mk ky ny ty fy) (xs.drop (p + 1)) (ys.drop (k + 1))
    rw [← dx, ← dy, ← d1, ← d2, ← d3] at e
    rw [e]
    rw [← d1] at b1
    rw [← d2] at b2
    rw [← d3] at b3
    exact min3 _ _ _ _ (by omega) (by omega) b2.1 (by omega) b3.1 (by omega) hcc.1 hcc.2
  conv => whnf
  refine ⟨(⟨by omega, by omega⟩ : (0 : Int) ≤ k ∧ (k : Int) < ((ys.length + 1 : Nat) : Int)), ?_⟩
  conv => whnf
  refine ⟨(by rw [rwP_len]; simp; omega : 0 + (k : Int).toNat < (rwP xs ys p (k + 1)).length), fun x _ => ?_⟩
  conv => whnf
  refine ⟨_, rfl, ?_⟩
  conv => whnf
  exact ⟨k, by omega, k, by omega, rfl, fin _ _ _ (by simp) (hval _ rfl) wk⟩

end Go.Clap
