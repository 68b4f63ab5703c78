/- Contracts: the law AlignLeast. -/
import Derived.Test.YtnielhfaioakkaaGreatClapV11
set_option linter.unusedVariables false
set_option linter.unusedSimpArgs false
namespace Go.Clap
variable {O : Oracle TT}

structure Picks (A B : FL) (d : Int) (Inv : Nat → Nat → PL → Prop) : Prop where
  i0 : Inv 0 0 []
  iP : ∀ i k l, Inv i k l → i < A.length → k < B.length → Inv (i + 1) (k + 1) (l ++ [((i : Int), (k : Int))])
  iA : ∀ i k l, Inv i k l → i < A.length → k < B.length → Inv (i + 1) k l
  iB : ∀ i k l, Inv i k l → i < A.length → k < B.length → Inv i (k + 1) l
  iE : ∀ i k l, Inv i k l → i ≤ A.length → k ≤ B.length → ¬ (i < A.length ∧ k < B.length) → InR A B l ∧ d ≤ costP A B l
  iL : ∀ i k l, Inv i k l → l.length ≤ i

set_option maxHeartbeats 2000000 in
theorem vc4_of (x y picks : LIS) (A B : FL) (path : PL) (d : Int) (gx : Gives O 8 [lD .int x] (vD (.mk 8 0 nmE A))) (gy : Gives O 8 [lD .int y] (vD (.mk 8 0 nmE B)))
    (g9 : Gives O 9 [vD (.mk 8 0 nmE A), vD (.mk 8 0 nmE B)] (.tup [lD .pair path, iD d, iD 0])) (h10 : Gives O 10 [] (bD true))
    (g12 : Gives O 12 [lD .pair path, iD A.length, iD B.length] (iD 0)) (g13 : Gives O 13 [lD .pair path] (iD 0))
    (h14 : ∀ l, InR A B l → Gives O 14 [vD (.mk 8 0 nmE A), vD (.mk 8 0 nmE B), lD .pair l] (iD (costP A B l))) (hin : InR A B path) (hd : costP A B path = d)
    (h15 : ∀ (l : LIS) (n : Int) (R : RR), R (iD (nextD l n).1) [(.x 0, some (.var [.isl .int (nextD l n).2]))] → O 15 [.c (.ptr (.x 0) 0 0), iD n] [(.x 0, some (.var [.isl .int l]))] R)
    {Inv : Nat → Nat → PL → Prop} (hI : Picks A B d Inv) (lx : A.length ≤ 7) (ly : B.length ≤ 7)
    (R : RR) (hR : R (bD true) []) : vcF (S := SS) O ir4 [lD .int x, lD .int y, lD .int picks] [] R := by
  have g14 := h14 path hin
  rw [hd] at g14
  refine ⟨by show 3 ≤ 98; omega, rfl, ?_⟩
  conv => whnf
  refine ⟨[], ?_⟩
  conv => whnf
  refine gx _ ?_
  conv => whnf
  refine ⟨[], ?_⟩
  conv => whnf
  refine gy _ ?_
  conv => whnf
  refine ⟨[], ?_⟩
  conv => whnf
  refine g9 _ ?_
  conv => whnf
  refine ⟨[], ?_⟩
  conv => whnf
  refine h10 _ ?_
  conv => whnf
  intro t ht
  obtain rfl : t = false := ht
  conv => whnf
  intro (_ : A.length ≤ 9223372036854775807)
  conv => whnf
  intro (_ : B.length ≤ 9223372036854775807)
  conv => whnf
  refine ⟨[], ?_⟩
  conv => whnf
  refine g12 _ ?_
  conv => whnf
  intro t ht
  obtain rfl : t = false := ht
  conv => whnf
  refine ⟨[], ?_⟩
  conv => whnf
  refine g13 _ ?_
  conv => whnf
  intro t ht
  obtain rfl : t = false := ht
  conv => whnf
  refine ⟨[], ?_⟩
  conv => whnf
  refine g14 _ ?_
  conv => whnf
  intro t ht
  have ht : t = (d != d) := ht
  have ht : t = false := by simpa using ht
  subst ht
  conv => whnf
  have back : ∀ (pk : LIS) (l : PL) (i k len : Nat) (zi zk : Int), zi = (i : Int) → zk = (k : Int) → len = l.length →
      (⟨[(7, .c (.ptr (.s 7) 0 0)), (8, .c (.ptr (.s 8) 0 0)), (10, iD d), (12, .c (.ptr (.s 59) 0 0)), (13, .c (.osl (.sub (.s 13) 13) 0 len)), (14, iD zi), (15, iD zk)],
        [(.s 7, some (.var (rowV (.mk 8 0 nmE A)))), (.s 8, some (.var (rowV (.mk 8 0 nmE B)))), (.s 59, some (.var [.isl .int pk])), (.sub (.s 13) 13, some (.row false .pair l))]⟩ : St TT) =
      ⟨[(7, .c (.ptr (.s 7) 0 0)), (8, .c (.ptr (.s 8) 0 0)), (10, iD d), (12, .c (.ptr (.s 59) 0 0)), (13, .c (.osl (.sub (.s 13) 13) 0 l.length)), (14, iD i), (15, iD k)],
        [(.s 7, some (.var (rowV (.mk 8 0 nmE A)))), (.s 8, some (.var (rowV (.mk 8 0 nmE B)))), (.s 59, some (.var [.isl .int pk])), (.sub (.s 13) 13, some (.row false .pair l))]⟩ := by
    rintro _ _ _ _ _ _ _ rfl rfl rfl; rfl
  refine ⟨fun σ n => ∃ (i k : Nat) (l : PL) (pk : LIS), i ≤ A.length ∧ k ≤ B.length ∧ n = (A.length - i) + (B.length - k) ∧ Inv i k l ∧
    σ.keep [7, 8, 10, 12, 13, 14, 15] [.s 7, .s 8, .s 59, .sub (.s 13) 13] =
      ⟨[(7, .c (.ptr (.s 7) 0 0)), (8, .c (.ptr (.s 8) 0 0)), (10, iD d), (12, .c (.ptr (.s 59) 0 0)), (13, .c (.osl (.sub (.s 13) 13) 0 l.length)), (14, iD i), (15, iD k)],
        [(.s 7, some (.var (rowV (.mk 8 0 nmE A)))), (.s 8, some (.var (rowV (.mk 8 0 nmE B)))), (.s 59, some (.var [.isl .int pk])), (.sub (.s 13) 13, some (.row false .pair l))]⟩,
    ⟨A.length + B.length, 0, 0, [], picks, by omega, by omega, by omega, hI.i0, rfl⟩, ?_⟩
  rintro σ n ⟨i, k, l, pk, hi, hk, rfl, hinv, hσ⟩
  unfold vcC
  rw [hσ]
  have hll := hI.iL _ _ _ hinv
  -- behind the loop
  have out : ¬ (i < A.length ∧ k < B.length) → InR A B l ∧ d ≤ costP A B l := hI.iE _ _ _ hinv hi hk
  conv => whnf
  intro (_ : A.length ≤ 9223372036854775807)
  conv => whnf
  intro t (ht : t = decide ((i : Int) < A.length))
  cases t
  · have hia : ¬ i < A.length := by have := of_decide_eq_false ht.symm; omega
    obtain ⟨h1, h2⟩ := out (fun h => hia h.1)
    conv => whnf
    refine ⟨(by omega : 0 + l.length ≤ l.length), ?_⟩
    conv => whnf
    refine ⟨[], ?_⟩
    conv => whnf
    have h0 : (l.drop 0).take l.length = l := by simp
    have g := h14 l h1
    rw [← h0] at g
    refine g _ ?_
    conv => whnf
    intro t ht
    rw [h0] at ht
    have ht : t = decide (costP A B l ≥ d) := ht
    have ht : t = true := by rw [ht]; exact decide_eq_true h2
    subst ht
    exact ⟨[], .nil, hR⟩
  have hia : i < A.length := by have := of_decide_eq_true ht.symm; omega
  conv => whnf
  intro (_ : B.length ≤ 9223372036854775807)
  conv => whnf
  intro t (ht : t = decide ((k : Int) < B.length))
  cases t
  · have hkb : ¬ k < B.length := by have := of_decide_eq_false ht.symm; omega
    obtain ⟨h1, h2⟩ := out (fun h => hkb h.2)
    conv => whnf
    refine ⟨(by omega : 0 + l.length ≤ l.length), ?_⟩
    conv => whnf
    refine ⟨[], ?_⟩
    conv => whnf
    have h0 : (l.drop 0).take l.length = l := by simp
    have g := h14 l h1
    rw [← h0] at g
    refine g _ ?_
    conv => whnf
    intro t ht
    rw [h0] at ht
    have ht : t = decide (costP A B l ≥ d) := ht
    have ht : t = true := by rw [ht]; exact decide_eq_true h2
    subst ht
    exact ⟨[], .nil, hR⟩
  have hkb : k < B.length := by have := of_decide_eq_true ht.symm; omega
  have wi := wrap_succ hia (show A.length ≤ 9223372036854775807 by omega)
  have wk := wrap_succ hkb (show B.length ≤ 9223372036854775807 by omega)
  conv => whnf
  refine ⟨[.s 59], ?_⟩
  conv => whnf
  refine h15 pk 3 _ ?_
  generalize nextD pk 3 = r
  obtain ⟨v, pk'⟩ := r
  conv => whnf
  intro t ht
  cases t
  rotate_left
  · conv => whnf
    refine ⟨rfl, rfl, ?_⟩
    conv => whnf
    refine ⟨rfl, ?_⟩
    conv => whnf
    refine ⟨(by omega : l.length + 1 ≤ 68719476736), ?_⟩
    conv => whnf
    exact ⟨(A.length - (i + 1)) + (B.length - (k + 1)), by omega, i + 1, k + 1, l ++ [((i : Int), (k : Int))], pk', by omega, by omega, rfl, hI.iP _ _ _ hinv hia hkb,
      back _ _ _ _ _ _ _ wi wk (by simp)⟩
  conv => whnf
  intro t ht
  cases t
  · conv => whnf
    exact ⟨(A.length - i) + (B.length - (k + 1)), by omega, i, k + 1, l, pk', by omega, by omega, rfl, hI.iB _ _ _ hinv hia hkb, back _ _ _ _ _ _ _ rfl wk rfl⟩
  · conv => whnf
    exact ⟨(A.length - (i + 1)) + (B.length - k), by omega, i + 1, k, l, pk', by omega, by omega, rfl, hI.iA _ _ _ hinv hia hkb, back _ _ _ _ _ _ _ wi rfl rfl⟩

end Go.Clap
