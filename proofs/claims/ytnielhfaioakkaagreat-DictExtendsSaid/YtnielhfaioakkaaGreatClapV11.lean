/- Contracts: checks, crossings and costs of alignments; the stream of picks. -/
import Derived.Test.YtnielhfaioakkaaGreatClapI3
set_option linter.unusedVariables false
set_option linter.unusedSimpArgs false
namespace Go.Clap
variable {O : Oracle TT}

abbrev PL := List (Int × Int)
def chkAcc (n m : Int) : List Bool → List Bool → PL → Int
  | _, _, [] => 0
  | L, R, p :: rest => cond (((decide (p.1 < 0) || decide (p.1 ≥ n)) || decide (p.2 < 0)) || decide (p.2 ≥ m)) 11
    (cond (L.getD p.1.toNat false || R.getD p.2.toNat false) 5 (chkAcc n m (L.set p.1.toNat true) (R.set p.2.toNat true) rest))
def checkP (l : PL) (n m : Int) : Int := cond (((decide (n < 0) || decide (m < 0)) || decide (n > 200)) || decide (m > 200)) 1 (chkAcc n m (List.replicate n.toNat false) (List.replicate m.toNat false) l)

def crossIn (p : Int × Int) : Int → PL → Int
  | n, [] => n
  | n, q :: rest => crossIn p (cond ((decide (p.1 < q.1) && decide (p.2 > q.2)) || (decide (p.1 > q.1) && decide (p.2 < q.2))) (IntKind.wrap .i64 (n + 1)) n) rest
def crossOut : Int → PL → PL → Int
  | n, _, [] => n
  | n, done, p :: rest => crossOut (crossIn p n done) (done ++ [p]) rest

def cstP (xs ys : FL) (p : Int × Int) : Int := match xs[p.1.toNat]?, ys[p.2.toNat]? with
  | some x, some y => costV x.2 y.2
  | _, _ => 0
def sumP (xs ys : FL) : Int → PL → Int
  | n, [] => n
  | n, p :: rest => sumP xs ys (IntKind.wrap .i64 (n + cstP xs ys p)) rest
def costP (xs ys : FL) (l : PL) : Int :=
  sumP xs ys (IntKind.wrap .i64 (2 * IntKind.wrap .i64 (IntKind.wrap .i64 ((xs.length : Int) + ys.length) - IntKind.wrap .i64 (2 * (l.length : Int))))) l
def InR (xs ys : FL) (l : PL) : Prop := ∀ p ∈ l, (0 ≤ p.1 ∧ p.1 < xs.length) ∧ (0 ≤ p.2 ∧ p.2 < ys.length)

def nextD (l : LIS) (n : Int) : Int × LIS := cond (decide (n < 1)) (0, l) (match l with | [] => (0, []) | x :: r => (bel x n, r))

theorem vc15 (h26 : ∀ x n, n ≠ 0 → Gives O 26 [iD x, iD n] (iD (bel x n))) (l : LIS) (n : Int) (R : RR) (hR : R (iD (nextD l n).1) [(.x 0, some (.var [.isl .int (nextD l n).2]))]) :
    vcF (S := SS) O ir15 [.c (.ptr (.x 0) 0 0), iD n] [(.x 0, some (.var [.isl .int l]))] R := by
  refine ⟨by show 2 ≤ 33; omega, rfl, ?_⟩
  unfold nextD at hR
  conv => whnf
  intro t ht
  rw [← ht] at hR
  cases t
  rotate_left
  · exact ⟨[], nd1, hR⟩
  have hn : ¬ n < 1 := of_decide_eq_false ht.symm
  conv => whnf
  intro (hl : l.length ≤ 9223372036854775807)
  conv => whnf
  intro t (ht2 : t = ((l.length : Int) == 0))
  cases t
  rotate_left
  · have : l.length = 0 := by have := ht2.symm; simp at this; simpa using this
    obtain rfl : l = [] := List.length_eq_zero_iff.1 this
    exact ⟨[], nd1, hR⟩
  have h0 : ¬ l.length = 0 := by have := ht2.symm; simp at this; simpa using this
  obtain ⟨x, r, rfl⟩ : ∃ x r, l = x :: r := by
    cases l with
    | nil => exact absurd rfl h0
    | cons x r => exact ⟨x, r, rfl⟩
  conv => whnf
  refine ⟨(⟨by omega, by simp⟩ : (0 : Int) ≤ 0 ∧ (0 : Int) < ((x :: r).length : Int)), fun (u : Int) (hu : (x :: r)[(0 : Int).toNat]? = some u) => ?_⟩
  obtain rfl : x = u := Option.some.inj hu
  conv => whnf
  refine ⟨by decide, ?_⟩
  conv => whnf
  refine ⟨(by simp : (1 : Int).toNat ≤ (x :: r).length ∧ (x :: r).length ≤ (x :: r).length), ?_⟩
  conv => whnf
  refine ⟨[], ?_⟩
  conv => whnf
  refine h26 _ _ (by omega) _ ?_
  conv => whnf
  have e : ((x :: r).drop (1 : Int).toNat).take ((x :: r).length - (1 : Int).toNat) = r := by simp
  have key : ∀ q : LIS, q = r → R (iD (bel x n)) [(.x 0, some (.var [.isl .int q]))] := by rintro q rfl; exact hR
  exact ⟨[], nd1, key _ e⟩

theorem vc14 (h33 : ∀ a b, Gives O 33 [vD a, vD b] (iD (costV a b))) (a b : V) (l : PL) (hin : InR a.fs b.fs l) (R : RR) (hR : R (iD (costP a.fs b.fs l)) []) :
    vcF (S := SS) O ir14 [vD a, vD b, lD .pair l] [] R := by
  obtain ⟨k1, n1, s1, xs⟩ := a
  obtain ⟨k2, n2, s2, ys⟩ := b
  replace hin : InR xs ys l := hin
  replace hR : R (iD (costP xs ys l)) [] := hR
  refine ⟨by show 3 ≤ 47; omega, rfl, ?_⟩
  conv => whnf
  intro (_ : xs.length ≤ 9223372036854775807)
  conv => whnf
  intro (_ : ys.length ≤ 9223372036854775807)
  conv => whnf
  intro (hlen : l.length ≤ 9223372036854775807)
  conv => whnf
  intro _
  conv => whnf
  rw [costP] at hR
  refine ⟨fun σ n => ∃ (i : Nat) (m : Int), i ≤ l.length ∧ n = l.length - i ∧
    sumP xs ys (IntKind.wrap .i64 (2 * IntKind.wrap .i64 (IntKind.wrap .i64 ((xs.length : Int) + ys.length) - IntKind.wrap .i64 (2 * (l.length : Int))))) l = sumP xs ys m (l.drop i) ∧
    σ.keep [3, 4, 7, 22, 23, 24] [.s 3, .s 4] =
      ⟨[(3, .c (.ptr (.s 3) 0 0)), (4, .c (.ptr (.s 4) 0 0)), (7, iD m), (22, lD .pair l), (23, iD l.length), (24, iD i)],
       [(.s 3, some (.var (rowV (.mk k1 n1 s1 xs)))), (.s 4, some (.var (rowV (.mk k2 n2 s2 ys))))]⟩, ⟨l.length, 0, _, by omega, by omega, rfl, rfl⟩, ?_⟩
  rintro σ n ⟨i, m, hi, rfl, hor, hσ⟩
  unfold vcC
  rw [hσ]
  rw [hor] at hR
  conv => whnf
  intro t (ht : t = decide ((i : Int) < l.length))
  cases t
  · have h0 : l.drop i = [] := List.drop_eq_nil_of_le (by have := of_decide_eq_false ht.symm; omega)
    rw [h0, sumP] at hR
    exact ⟨[], .nil, hR⟩
  have h : (i : Int) < l.length := of_decide_eq_true ht.symm
  conv => whnf
  refine ⟨(⟨by omega, by omega⟩ : (0 : Int) ≤ i ∧ (i : Int) < l.length), fun (u : Int × Int) (hu : l[(i : Int).toNat]? = some u) => ?_⟩
  have hu : l[i]? = some u := by simpa using hu
  have hp := hin u (List.mem_of_getElem? hu)
  rw [drop_cons hu, sumP] at hR hor
  obtain ⟨p1, p2⟩ := u
  obtain ⟨⟨hp1, hp2⟩, hp3, hp4⟩ := hp
  have hp1 : 0 ≤ p1 := hp1
  have hp2 : p1 < xs.length := hp2
  have hp3 : 0 ≤ p2 := hp3
  have hp4 : p2 < ys.length := hp4
  conv => whnf
  refine ⟨(⟨hp1, hp2⟩ : (0 : Int) ≤ p1 ∧ p1 < xs.length), fun (x : ByteArray × V) (hx : xs[p1.toNat]? = some x) => ?_⟩
  obtain ⟨sx, kx, nx, tx, fx⟩ := x
  conv => whnf
  refine ⟨(⟨hp3, hp4⟩ : (0 : Int) ≤ p2 ∧ p2 < ys.length), fun (y : ByteArray × V) (hy : ys[p2.toNat]? = some y) => ?_⟩
  obtain ⟨sy, ky, ny, ty, fy⟩ := y
  have hc : cstP xs ys (p1, p2) = costV (.mk kx nx tx fx) (.mk ky ny ty fy) := by
    simp only [cstP, hx, hy]
  rw [hc] at hor
  conv => whnf
  refine ⟨[], ?_⟩
  conv => whnf
  refine h33 (.mk kx nx tx fx) (.mk ky ny ty fy) _ ?_
  have back : ∀ (mm zi : Int), zi = ((i + 1 : Nat) : Int) →
      (⟨[(3, .c (.ptr (.s 3) 0 0)), (4, .c (.ptr (.s 4) 0 0)), (7, iD mm), (22, lD .pair l), (23, iD l.length), (24, iD zi)],
       [(.s 3, some (.var (rowV (.mk k1 n1 s1 xs)))), (.s 4, some (.var (rowV (.mk k2 n2 s2 ys))))]⟩ : St TT) =
      ⟨[(3, .c (.ptr (.s 3) 0 0)), (4, .c (.ptr (.s 4) 0 0)), (7, iD mm), (22, lD .pair l), (23, iD l.length), (24, iD ((i + 1 : Nat) : Int))],
       [(.s 3, some (.var (rowV (.mk k1 n1 s1 xs)))), (.s 4, some (.var (rowV (.mk k2 n2 s2 ys))))]⟩ := by rintro _ _ rfl; rfl
  conv => whnf
  exact ⟨l.length - (i + 1), by omega, i + 1, _, by omega, rfl, hor, back _ _ (wrap_succ (show i < l.length by omega) hlen)⟩

theorem vc13 (l : PL) (R : RR) (hR : R (iD (crossOut 0 [] l)) []) : vcF (S := SS) O ir13 [lD .pair l] [] R := by
  refine ⟨by show 1 ≤ 54; omega, rfl, ?_⟩
  conv => whnf
  intro (hlen : l.length ≤ 9223372036854775807)
  conv => whnf
  refine ⟨fun σ n => ∃ (i : Nat) (m : Int), i ≤ l.length ∧ n = l.length - i ∧ crossOut 0 [] l = crossOut m (l.take i) (l.drop i) ∧
    σ.keep [0, 3, 8, 9, 10] [] = ⟨[(0, lD .pair l), (3, iD m), (8, lD .pair l), (9, iD l.length), (10, iD i)], []⟩, ⟨l.length, 0, 0, by omega, by omega, rfl, rfl⟩, ?_⟩
  rintro σ n ⟨i, m, hi, rfl, hor, hσ⟩
  unfold vcC
  rw [hσ]
  conv => whnf
  intro t (ht : t = decide ((i : Int) < l.length))
  cases t
  · have h0 : l.drop i = [] := List.drop_eq_nil_of_le (by have := of_decide_eq_false ht.symm; omega)
    rw [hor, h0, crossOut] at hR
    exact ⟨[], .nil, hR⟩
  have h : (i : Int) < l.length := of_decide_eq_true ht.symm
  conv => whnf
  refine ⟨(⟨by omega, by omega⟩ : (0 : Int) ≤ i ∧ (i : Int) < l.length), fun (u : Int × Int) (hu : l[(i : Int).toNat]? = some u) => ?_⟩
  have hu : l[i]? = some u := by simpa using hu
  have hd := drop_cons hu
  have htk : l.take (i + 1) = l.take i ++ [u] := by rw [List.take_add_one, hu]; rfl
  rw [hd, crossOut, ← htk] at hor
  obtain ⟨a, b⟩ := u
  conv => whnf
  refine ⟨(by omega : (0 : Int) ≤ i), ?_⟩
  conv => whnf
  refine ⟨(⟨by omega, by omega⟩ : 0 ≤ (i : Int).toNat ∧ (i : Int).toNat ≤ l.length), ?_⟩
  conv => whnf
  intro _
  conv => whnf
  have hq : (l.drop 0).take ((i : Int).toNat - 0) = l.take i := by simp
  refine ⟨fun σ n => ∃ (j : Nat) (m' : Int), j ≤ (l.take i).length ∧ n = (l.take i).length - j ∧ crossIn (a, b) m (l.take i) = crossIn (a, b) m' ((l.take i).drop j) ∧
    σ.keep [0, 3, 5, 8, 9, 10, 17, 18, 19] [.s 5] = ⟨[(0, lD .pair l), (3, iD m'), (5, .c (.ptr (.s 5) 0 0)), (8, lD .pair l), (9, iD l.length), (10, iD i), (17, lD .pair (l.take i)), (18, iD (l.take i).length), (19, iD j)],
      [(.s 5, some (.var [.int .i64 a, .int .i64 b]))]⟩, ⟨(l.take i).length, 0, m, by omega, by omega, rfl, ?_⟩, ?_⟩
  · have key : ∀ q : PL, q = l.take i → (⟨[(0, lD .pair l), (3, iD m), (5, .c (.ptr (.s 5) 0 0)), (8, lD .pair l), (9, iD l.length), (10, iD i), (17, lD .pair q), (18, iD q.length), (19, iD 0)],
        [(.s 5, some (.var [.int .i64 a, .int .i64 b]))]⟩ : St TT) =
        ⟨[(0, lD .pair l), (3, iD m), (5, .c (.ptr (.s 5) 0 0)), (8, lD .pair l), (9, iD l.length), (10, iD i), (17, lD .pair (l.take i)), (18, iD (l.take i).length), (19, iD 0)],
        [(.s 5, some (.var [.int .i64 a, .int .i64 b]))]⟩ := by rintro _ rfl; rfl
    exact key _ hq
  generalize hL : l.take i = L at hor
  have hLl : L.length ≤ 9223372036854775807 := by rw [← hL]; simp; omega
  clear hq
  rintro σ n ⟨j, m', hj, rfl, hor2, hσ⟩
  unfold vcC
  rw [hσ]
  conv => whnf
  intro t (ht : t = decide ((j : Int) < L.length))
  cases t
  · have h0 : L.drop j = [] := List.drop_eq_nil_of_le (by have := of_decide_eq_false ht.symm; omega)
    rw [h0, crossIn] at hor2
    rw [hor2] at hor
    have back : ∀ (zi : Int), zi = ((i + 1 : Nat) : Int) →
      (⟨[(0, lD .pair l), (3, iD m'), (8, lD .pair l), (9, iD l.length), (10, iD zi)], []⟩ : St TT) = ⟨[(0, lD .pair l), (3, iD m'), (8, lD .pair l), (9, iD l.length), (10, iD ((i + 1 : Nat) : Int))], []⟩ := by rintro _ rfl; rfl
    conv => whnf
    exact ⟨l.length - (i + 1), by omega, i + 1, m', by omega, rfl, hor, back _ (wrap_succ (show i < l.length by omega) hlen)⟩
  have h2 : (j : Int) < L.length := of_decide_eq_true ht.symm
  conv => whnf
  refine ⟨(⟨by omega, by omega⟩ : (0 : Int) ≤ j ∧ (j : Int) < L.length), fun (u : Int × Int) (hu : L[(j : Int).toNat]? = some u) => ?_⟩
  have hu : L[j]? = some u := by simpa using hu
  obtain ⟨c, d⟩ := u
  rw [drop_cons hu, crossIn] at hor2
  dsimp only at hor2
  have back : ∀ (mm zi : Int), zi = ((j + 1 : Nat) : Int) →
      (⟨[(0, lD .pair l), (3, iD mm), (5, .c (.ptr (.s 5) 0 0)), (8, lD .pair l), (9, iD l.length), (10, iD i), (17, lD .pair L), (18, iD L.length), (19, iD zi)],
        [(.s 5, some (.var [.int .i64 a, .int .i64 b]))]⟩ : St TT) =
      ⟨[(0, lD .pair l), (3, iD mm), (5, .c (.ptr (.s 5) 0 0)), (8, lD .pair l), (9, iD l.length), (10, iD i), (17, lD .pair L), (18, iD L.length), (19, iD ((j + 1 : Nat) : Int))],
        [(.s 5, some (.var [.int .i64 a, .int .i64 b]))]⟩ := by rintro _ _ rfl; rfl
  have wj := wrap_succ (show j < L.length by omega) hLl
  repeat' (conv => whnf
           first
           | (intro t ht; rw [← ht] at hor2
              cases t)
           | exact ⟨L.length - (j + 1), by omega, j + 1, _, by omega, rfl, hor2, back _ _ wj⟩)

theorem getD_some {L : List Bool} {i : Nat} {x : Bool} (h : L[i]? = some x) : L.getD i false = x := by simp [List.getD, h]

set_option maxHeartbeats 2000000 in
theorem vc12 (l : PL) (n m : Int) (R : RR) (hR : R (iD (checkP l n m)) []) : vcF (S := SS) O ir12 [lD .pair l, iD n, iD m] [] R := by
  refine ⟨by show 3 ≤ 76; omega, rfl, ?_⟩
  rw [checkP] at hR
  conv => whnf
  intro t ht
  rw [← ht] at hR
  cases t
  rotate_left
  · exact ⟨[], .nil, hR⟩
  have n0 := of_decide_eq_false ht.symm
  conv => whnf
  intro t ht
  rw [← ht] at hR
  cases t
  rotate_left
  · exact ⟨[], .nil, hR⟩
  have m0 := of_decide_eq_false ht.symm
  conv => whnf
  intro t ht
  rw [← ht] at hR
  cases t
  rotate_left
  · exact ⟨[], .nil, hR⟩
  have n1 := of_decide_eq_false ht.symm
  conv => whnf
  intro t ht
  rw [← ht] at hR
  cases t
  rotate_left
  · exact ⟨[], .nil, hR⟩
  have m1 := of_decide_eq_false ht.symm
  replace hR : R (iD (chkAcc n m (List.replicate n.toNat false) (List.replicate m.toNat false) l)) [] := hR
  have hn : (0 : Int) ≤ n ∧ n ≤ (68719476736 : Nat) := ⟨by omega, by omega⟩
  have hm : (0 : Int) ≤ m ∧ m ≤ (68719476736 : Nat) := ⟨by omega, by omega⟩
  conv => whnf
  refine ⟨?_, ?_⟩
  · refine ⟨hn, ?_⟩
    conv => whnf
    refine ⟨hm, ?_⟩
    conv => whnf
    intro (hlen : l.length ≤ 9223372036854775807)
    conv => whnf
    refine ⟨fun σ k => ∃ (i : Nat) (L Rr : List Bool), i ≤ l.length ∧ k = l.length - i ∧ L.length = n.toNat ∧ Rr.length = m.toNat ∧
      chkAcc n m (List.replicate n.toNat false) (List.replicate m.toNat false) l = chkAcc n m L Rr (l.drop i) ∧
      σ.keep [1, 2, 7, 8, 29, 30, 31] [.s 26, .s 28] = ⟨[(1, iD n), (2, iD m), (7, .c (.osl (.s 26) 0 n.toNat)), (8, .c (.osl (.s 28) 0 m.toNat)), (29, lD .pair l), (30, iD l.length), (31, iD i)],
        [(.s 26, some (.row false .bool L)), (.s 28, some (.row false .bool Rr))]⟩, ⟨l.length, 0, _, _, by omega, by omega, by simp, by simp, rfl, rfl⟩, ?_⟩
    rintro σ k ⟨i, L, Rr, hi, rfl, hL, hRr, hor, hσ⟩
    unfold vcC
    rw [hσ]
    rw [hor] at hR
    conv => whnf
    intro t (ht : t = decide ((i : Int) < l.length))
    cases t
    · have h0 : l.drop i = [] := List.drop_eq_nil_of_le (by have := of_decide_eq_false ht.symm; omega)
      rw [h0, chkAcc] at hR
      exact ⟨[], .nil, hR⟩
    have h : (i : Int) < l.length := of_decide_eq_true ht.symm
    conv => whnf
    refine ⟨(⟨by omega, by omega⟩ : (0 : Int) ≤ i ∧ (i : Int) < l.length), fun (u : Int × Int) (hu : l[(i : Int).toNat]? = some u) => ?_⟩
    have hu : l[i]? = some u := by simpa using hu
    obtain ⟨a, b⟩ := u
    rw [drop_cons hu, chkAcc] at hR hor
    dsimp only at hR hor
    conv => whnf
    intro t ht1
    rw [← ht1] at hR hor
    cases t
    rotate_left
    · exact ⟨[], .nil, hR⟩
    have a0 := of_decide_eq_false ht1.symm
    conv => whnf
    intro t ht2
    rw [← ht2] at hR hor
    cases t
    rotate_left
    · exact ⟨[], .nil, hR⟩
    have a1 := of_decide_eq_false ht2.symm
    conv => whnf
    intro t ht3
    rw [← ht3] at hR hor
    cases t
    rotate_left
    · exact ⟨[], .nil, hR⟩
    have b0 := of_decide_eq_false ht3.symm
    conv => whnf
    intro t ht4
    rw [← ht4] at hR hor
    cases t
    rotate_left
    · exact ⟨[], .nil, hR⟩
    have b1 := of_decide_eq_false ht4.symm
    have ha : (0 : Int) ≤ a ∧ a < (n.toNat : Int) := ⟨by omega, by omega⟩
    have hb : (0 : Int) ≤ b ∧ b < (m.toNat : Int) := ⟨by omega, by omega⟩
    have haL : 0 + a.toNat < L.length := by omega
    have hbR : 0 + b.toNat < Rr.length := by omega
    have za : 0 + a.toNat = a.toNat := by omega
    have zb : 0 + b.toNat = b.toNat := by omega
    conv => whnf
    refine ⟨ha, ?_⟩
    conv => whnf
    refine ⟨haL, fun (x : Bool) (hx : L[0 + a.toNat]? = some x) => ?_⟩
    rw [za] at hx
    rw [getD_some hx] at hR hor
    cases x
    rotate_left
    · exact ⟨[], .nil, hR⟩
    conv => whnf
    refine ⟨hb, ?_⟩
    conv => whnf
    refine ⟨hbR, fun (y : Bool) (hy : Rr[0 + b.toNat]? = some y) => ?_⟩
    rw [zb] at hy
    rw [getD_some hy] at hR hor
    cases y
    rotate_left
    · exact ⟨[], .nil, hR⟩
    have back : ∀ (zi : Int) (p q : Nat), zi = ((i + 1 : Nat) : Int) → p = a.toNat → q = b.toNat →
        (⟨[(1, iD n), (2, iD m), (7, .c (.osl (.s 26) 0 n.toNat)), (8, .c (.osl (.s 28) 0 m.toNat)), (29, lD .pair l), (30, iD l.length), (31, iD zi)],
        [(.s 26, some (.row false .bool (L.set p true))), (.s 28, some (.row false .bool (Rr.set q true)))]⟩ : St TT) =
        ⟨[(1, iD n), (2, iD m), (7, .c (.osl (.s 26) 0 n.toNat)), (8, .c (.osl (.s 28) 0 m.toNat)), (29, lD .pair l), (30, iD l.length), (31, iD ((i + 1 : Nat) : Int))],
        [(.s 26, some (.row false .bool (L.set a.toNat true))), (.s 28, some (.row false .bool (Rr.set b.toNat true)))]⟩ := by
      rintro _ _ _ rfl rfl rfl; rfl
    conv => whnf
    refine ⟨ha, ?_⟩
    conv => whnf
    refine ⟨haL, fun (x : Bool) _ => ⟨true, rfl, ?_⟩⟩
    conv => whnf
    refine ⟨hb, ?_⟩
    conv => whnf
    refine ⟨hbR, fun (x : Bool) _ => ⟨true, rfl, ?_⟩⟩
    conv => whnf
    exact ⟨l.length - (i + 1), by omega, i + 1, _, _, by omega, rfl, by simpa using hL, by simpa using hRr, hor, back _ _ _ (wrap_succ (show i < l.length by omega) hlen) za zb⟩
  · refine ⟨hm, ?_⟩
    conv => whnf
    refine ⟨hn, ?_⟩
    conv => whnf
    intro (hlen : l.length ≤ 9223372036854775807)
    conv => whnf
    refine ⟨fun σ k => ∃ (i : Nat) (L Rr : List Bool), i ≤ l.length ∧ k = l.length - i ∧ L.length = n.toNat ∧ Rr.length = m.toNat ∧
      chkAcc n m (List.replicate n.toNat false) (List.replicate m.toNat false) l = chkAcc n m L Rr (l.drop i) ∧
      σ.keep [1, 2, 7, 8, 29, 30, 31] [.s 26, .s 28] = ⟨[(1, iD n), (2, iD m), (7, .c (.osl (.s 26) 0 n.toNat)), (8, .c (.osl (.s 28) 0 m.toNat)), (29, lD .pair l), (30, iD l.length), (31, iD i)],
        [(.s 26, some (.row false .bool L)), (.s 28, some (.row false .bool Rr))]⟩, ⟨l.length, 0, _, _, by omega, by omega, by simp, by simp, rfl, rfl⟩, ?_⟩
    rintro σ k ⟨i, L, Rr, hi, rfl, hL, hRr, hor, hσ⟩
    unfold vcC
    rw [hσ]
    rw [hor] at hR
    conv => whnf
    intro t (ht : t = decide ((i : Int) < l.length))
    cases t
    · have h0 : l.drop i = [] := List.drop_eq_nil_of_le (by have := of_decide_eq_false ht.symm; omega)
      rw [h0, chkAcc] at hR
      exact ⟨[], .nil, hR⟩
    have h : (i : Int) < l.length := of_decide_eq_true ht.symm
    conv => whnf
    refine ⟨(⟨by omega, by omega⟩ : (0 : Int) ≤ i ∧ (i : Int) < l.length), fun (u : Int × Int) (hu : l[(i : Int).toNat]? = some u) => ?_⟩
    have hu : l[i]? = some u := by simpa using hu
    obtain ⟨a, b⟩ := u
    rw [drop_cons hu, chkAcc] at hR hor
    dsimp only at hR hor
    conv => whnf
    intro t ht1
    rw [← ht1] at hR hor
    cases t
    rotate_left
    · exact ⟨[], .nil, hR⟩
    have a0 := of_decide_eq_false ht1.symm
    conv => whnf
    intro t ht2
    rw [← ht2] at hR hor
    cases t
    rotate_left
    · exact ⟨[], .nil, hR⟩
    have a1 := of_decide_eq_false ht2.symm
    conv => whnf
    intro t ht3
    rw [← ht3] at hR hor
    cases t
    rotate_left
    · exact ⟨[], .nil, hR⟩
    have b0 := of_decide_eq_false ht3.symm
    conv => whnf
    intro t ht4
    rw [← ht4] at hR hor
    cases t
    rotate_left
    · exact ⟨[], .nil, hR⟩
    have b1 := of_decide_eq_false ht4.symm
    have ha : (0 : Int) ≤ a ∧ a < (n.toNat : Int) := ⟨by omega, by omega⟩
    have hb : (0 : Int) ≤ b ∧ b < (m.toNat : Int) := ⟨by omega, by omega⟩
    have haL : 0 + a.toNat < L.length := by omega
    have hbR : 0 + b.toNat < Rr.length := by omega
    have za : 0 + a.toNat = a.toNat := by omega
    have zb : 0 + b.toNat = b.toNat := by omega
    conv => whnf
    refine ⟨ha, ?_⟩
    conv => whnf
    refine ⟨haL, fun (x : Bool) (hx : L[0 + a.toNat]? = some x) => ?_⟩
    rw [za] at hx
    rw [getD_some hx] at hR hor
    cases x
    rotate_left
    · exact ⟨[], .nil, hR⟩
    conv => whnf
    refine ⟨hb, ?_⟩
    conv => whnf
    refine ⟨hbR, fun (y : Bool) (hy : Rr[0 + b.toNat]? = some y) => ?_⟩
    rw [zb] at hy
    rw [getD_some hy] at hR hor
    cases y
    rotate_left
    · exact ⟨[], .nil, hR⟩
    have back : ∀ (zi : Int) (p q : Nat), zi = ((i + 1 : Nat) : Int) → p = a.toNat → q = b.toNat →
        (⟨[(1, iD n), (2, iD m), (7, .c (.osl (.s 26) 0 n.toNat)), (8, .c (.osl (.s 28) 0 m.toNat)), (29, lD .pair l), (30, iD l.length), (31, iD zi)],
        [(.s 26, some (.row false .bool (L.set p true))), (.s 28, some (.row false .bool (Rr.set q true)))]⟩ : St TT) =
        ⟨[(1, iD n), (2, iD m), (7, .c (.osl (.s 26) 0 n.toNat)), (8, .c (.osl (.s 28) 0 m.toNat)), (29, lD .pair l), (30, iD l.length), (31, iD ((i + 1 : Nat) : Int))],
        [(.s 26, some (.row false .bool (L.set a.toNat true))), (.s 28, some (.row false .bool (Rr.set b.toNat true)))]⟩ := by
      rintro _ _ _ rfl rfl rfl; rfl
    conv => whnf
    refine ⟨ha, ?_⟩
    conv => whnf
    refine ⟨haL, fun (x : Bool) _ => ⟨true, rfl, ?_⟩⟩
    conv => whnf
    refine ⟨hb, ?_⟩
    conv => whnf
    refine ⟨hbR, fun (x : Bool) _ => ⟨true, rfl, ?_⟩⟩
    conv => whnf
    exact ⟨l.length - (i + 1), by omega, i + 1, _, _, by omega, rfl, by simpa using hL, by simpa using hRr, hor, back _ _ _ (wrap_succ (show i < l.length by omega) hlen) za zb⟩

end Go.Clap
