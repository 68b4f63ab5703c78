/- Contracts: alignment by edits. -/
import Derived.Test.YtnielhfaioakkaaGreatClapV7
set_option linter.unusedVariables false
set_option linter.unusedSimpArgs false
namespace Go.Clap
variable {O : Oracle TT}

/-- The alignment that is found. -/
def pathL : FL → FL → Nat → Nat → List (Int × Int)
  | [], [], _, _ => []
  | _ :: as, [], i, k => pathL as [] (i + 1) k
  | [], _ :: bs, i, k => pathL [] bs i (k + 1)
  | a :: as, b :: bs, i, k => if distL (a :: as) (b :: bs) = distL as bs + costV a.2 b.2 then ((i : Int), (k : Int)) :: pathL as bs (i + 1) (k + 1)
    else if distL (a :: as) (b :: bs) = distL as (b :: bs) + 2 then pathL as (b :: bs) (i + 1) k else pathL (a :: as) bs i (k + 1)
termination_by as bs => as.length + bs.length

theorem ofDec {t : Bool} {p : Prop} [Decidable p] (ht : t = decide p) (h : p) : t = true := by rw [ht]; exact decide_eq_true h
theorem ofDecN {t : Bool} {p : Prop} [Decidable p] (ht : t = decide p) (h : ¬ p) : t = false := by rw [ht]; exact decide_eq_false h

set_option maxHeartbeats 8000000 in
theorem vc9 (a b : V) (h31 : Gives O 31 [vD a, vD b] (iD 0)) (h33 : ∀ a b, Gives O 33 [vD a, vD b] (iD (costV a b)))
    (h32 : Gives O 32 [lD .fld a.fs, lD .fld b.fs] (lD .ints (rwsT a.fs b.fs 0))) (hx : a.fs.length ≤ 100000) (hy : b.fs.length ≤ 100000) (hc : CostOk a.fs b.fs)
    (R : RR) (hR : R (.tup [lD .pair (pathL a.fs b.fs 0 0), iD (distL a.fs b.fs), iD 0]) []) :
    vcF (S := SS) O ir9 [vD a, vD b] [] R := by
  obtain ⟨k1, n1, s1, xs⟩ := a
  obtain ⟨k2, n2, s2, ys⟩ := b
  replace hx : xs.length ≤ 100000 := hx
  replace hy : ys.length ≤ 100000 := hy
  replace hc : CostOk xs ys := hc
  replace hR : R (.tup [lD .pair (pathL xs ys 0 0), iD (distL xs ys), iD 0]) [] := hR
  replace h32 : Gives O 32 [lD .fld xs, lD .fld ys] (lD .ints (rwsT xs ys 0)) := h32
  have tl : (rwsT xs ys 0).length = xs.length + 1 := rwsT_len xs ys 0
  have tg : ∀ r, r < xs.length + 1 → (rwsT xs ys 0)[r]? = some (rwT xs ys r) := fun r h => rwsT_get xs ys 0 r h (Nat.zero_le _)
  generalize rwsT xs ys 0 = T at tl tg h32
  have back : ∀ (out : List (Int × Int)) (i k len : Nat) (zi zk : Int), zi = (i : Int) → zk = (k : Int) → len = out.length →
      (⟨[(2, .c (.ptr (.s 2) 0 0)), (3, .c (.ptr (.s 3) 0 0)), (8, lD .ints T), (9, .c (.osl (.sub (.s 9) 9) 0 len)), (10, iD zi), (11, iD zk)],
       [(.s 2, some (.var (rowV (.mk k1 n1 s1 xs)))), (.s 3, some (.var (rowV (.mk k2 n2 s2 ys)))), (.sub (.s 9) 9, some (.row false .pair out))]⟩ : St TT) =
      ⟨[(2, .c (.ptr (.s 2) 0 0)), (3, .c (.ptr (.s 3) 0 0)), (8, lD .ints T), (9, .c (.osl (.sub (.s 9) 9) 0 out.length)), (10, iD i), (11, iD k)],
       [(.s 2, some (.var (rowV (.mk k1 n1 s1 xs)))), (.s 3, some (.var (rowV (.mk k2 n2 s2 ys)))), (.sub (.s 9) 9, some (.row false .pair out))]⟩ := by
    rintro _ _ _ _ _ _ rfl rfl rfl; rfl
  refine ⟨by show 2 ≤ 126; omega, rfl, ?_⟩
  conv => whnf
  refine ⟨[], ?_⟩
  conv => whnf
  refine h31 _ ?_
  conv => whnf
  intro t ht
  obtain rfl : t = false := by rw [ht]; rfl
  conv => whnf
  refine ⟨[], ?_⟩
  conv => whnf
  refine h32 _ ?_
  conv => whnf
  refine ⟨fun σ n => ∃ (i k : Nat) (out : List (Int × Int)), i ≤ xs.length ∧ k ≤ ys.length ∧ n = (xs.length - i) + (ys.length - k) ∧ out.length ≤ i ∧
    out ++ pathL (xs.drop i) (ys.drop k) i k = pathL xs ys 0 0 ∧
    σ.keep [2, 3, 8, 9, 10, 11] [.s 2, .s 3, .sub (.s 9) 9] =
      ⟨[(2, .c (.ptr (.s 2) 0 0)), (3, .c (.ptr (.s 3) 0 0)), (8, lD .ints T), (9, .c (.osl (.sub (.s 9) 9) 0 out.length)), (10, iD i), (11, iD k)],
       [(.s 2, some (.var (rowV (.mk k1 n1 s1 xs)))), (.s 3, some (.var (rowV (.mk k2 n2 s2 ys)))), (.sub (.s 9) 9, some (.row false .pair out))]⟩,
    ⟨xs.length + ys.length, 0, 0, [], by omega, by omega, by omega, by simp, rfl, rfl⟩, ?_⟩
  rintro σ n ⟨i, k, out, hi, hk, rfl, hol, hp, hσ⟩
  unfold vcC
  rw [hσ]
  conv => whnf
  intro _
  conv => whnf
  intro t (ht : t = decide ((i : Int) < xs.length))
  by_cases hix : i < xs.length
  rotate_left
  · obtain rfl : t = false := ofDecN ht (by omega)
    have hdx : xs.drop i = [] := List.drop_eq_nil_of_le (by omega)
    conv => whnf
    intro _
    conv => whnf
    intro t (ht2 : t = decide ((k : Int) < ys.length))
    by_cases hky : k < ys.length
    rotate_left
    · obtain rfl : t = false := ofDecN ht2 (by omega)
      have hdy : ys.drop k = [] := List.drop_eq_nil_of_le (by omega)
      rw [hdx, hdy, pathL, List.append_nil] at hp
      conv => whnf
      refine ⟨(by omega : 0 + out.length ≤ out.length), ?_⟩
      conv => whnf
      refine ⟨(by rw [tl]; omega : (0 : Int) ≤ 0 ∧ (0 : Int) < (T.length : Int)), fun (r : List Int) (hr : T[(0 : Int).toNat]? = some r) => ?_⟩
      have hh : rwT xs ys 0 = r := by
        have q0 := tg 0 (by omega)
        rw [show (0 : Int).toNat = 0 from rfl, q0] at hr
        exact Option.some.inj hr
      subst hh
      conv => whnf
      refine ⟨(by rw [rwT_len]; omega : (0 : Int) ≤ 0 ∧ (0 : Int) < ((rwT xs ys 0).length : Int)), fun (u : Int) (hu : (rwT xs ys 0)[(0 : Int).toNat]? = some u) => ?_⟩
      have hh : distL xs ys = u := by
        have q0 := rwT_get xs ys 0 0 (by omega)
        rw [show (0 : Int).toNat = 0 from rfl, q0] at hu
        exact Option.some.inj hu
      subst hh
      conv => whnf
      refine ⟨[], .nil, ?_⟩
      have h0 : (out.drop 0).take out.length = pathL xs ys 0 0 := by rw [List.drop_zero, List.take_length, hp]
      have key : ∀ X : List (Int × Int), X = pathL xs ys 0 0 → R (.tup [lD .pair X, iD (distL xs ys), iD 0]) [] := by rintro X rfl; exact hR
      exact key _ h0
    obtain rfl : t = true := ofDec ht2 (by omega)
    conv => whnf
    intro _
    conv => whnf
    intro t (ht3 : t = decide ((i : Int) < xs.length))
    obtain rfl : t = false := ofDecN ht3 (by omega)
    conv => whnf
    intro _
    conv => whnf
    intro t (ht4 : t = decide ((i : Int) < xs.length))
    obtain rfl : t = false := ofDecN ht4 (by omega)
    conv => whnf
    obtain ⟨y, hy1⟩ : ∃ y, ys[k]? = some y := ⟨ys[k], List.getElem?_eq_getElem (by omega)⟩
    refine ⟨(xs.length - i) + (ys.length - (k + 1)), by omega, i, k + 1, out, by omega, by omega, rfl, by omega, ?_, ?_⟩
    · rw [hdx, drop_cons hy1, pathL] at hp
      rw [hdx]; exact hp
    · exact back _ _ _ _ _ _ rfl (wrap_succ (show k < ys.length by omega) (by omega)) rfl
  obtain rfl : t = true := ofDec ht (by omega)
  obtain ⟨x, hx1⟩ : ∃ x, xs[i]? = some x := ⟨xs[i], List.getElem?_eq_getElem (by omega)⟩
  have dx := drop_cons hx1
  have mx := List.mem_of_getElem? hx1
  have wi1 : IntKind.wrap .i64 ((i : Int) + 1) = ((i + 1 : Nat) : Int) := wrap_succ hix (by omega)
  conv => whnf
  intro _
  conv => whnf
  intro t (ht3 : t = decide ((i : Int) < xs.length))
  obtain rfl : t = true := ofDec ht3 (by omega)
  conv => whnf
  intro _
  conv => whnf
  intro t (ht4 : t = decide ((k : Int) < ys.length))
  -- the second look: whether the element of a stays alone
  have alone : ∀ (P1 : Int → Int → Prop), True := fun _ => trivial
  by_cases hky : k < ys.length
  rotate_left
  · obtain rfl : t = false := ofDecN ht4 (by omega)
    have hkl : k = ys.length := by omega
    have hdy : ys.drop k = [] := List.drop_eq_nil_of_le (by omega)
    conv => whnf
    intro _
    conv => whnf
    intro t (ht5 : t = decide ((i : Int) < xs.length))
    obtain rfl : t = true := ofDec ht5 (by omega)
    conv => whnf
    refine ⟨(by rw [tl]; omega : (0 : Int) ≤ i ∧ (i : Int) < (T.length : Int)), fun (r : List Int) (hr : T[(i : Int).toNat]? = some r) => ?_⟩
    have hh : rwT xs ys i = r := by
      have q0 := tg i (by omega)
      rw [Int.toNat_natCast, q0] at hr
      exact Option.some.inj hr
    subst hh
    conv => whnf
    refine ⟨(by rw [rwT_len]; omega : (0 : Int) ≤ k ∧ (k : Int) < ((rwT xs ys i).length : Int)), fun (u : Int) (hu : (rwT xs ys i)[(k : Int).toNat]? = some u) => ?_⟩
    rw [Int.toNat_natCast, rwT_get xs ys i k (by omega)] at hu
    replace hu := Option.some.inj hu
    conv => whnf
    refine ⟨(by rw [tl, wi1]; omega : (0 : Int) ≤ IntKind.wrap .i64 ((i : Int) + 1) ∧ IntKind.wrap .i64 ((i : Int) + 1) < (T.length : Int)), fun (r : List Int) (hr : T[(IntKind.wrap .i64 ((i : Int) + 1)).toNat]? = some r) => ?_⟩
    have hh : rwT xs ys (i + 1) = r := by
      have q0 := tg (i + 1) (by omega)
      rw [wi1, Int.toNat_natCast, q0] at hr
      exact Option.some.inj hr
    subst hh
    conv => whnf
    refine ⟨(by rw [rwT_len]; omega : (0 : Int) ≤ k ∧ (k : Int) < ((rwT xs ys (i + 1)).length : Int)), fun (u2 : Int) (hu2 : (rwT xs ys (i + 1))[(k : Int).toNat]? = some u2) => ?_⟩
    rw [Int.toNat_natCast, rwT_get xs ys (i + 1) k (by omega)] at hu2
    replace hu2 := Option.some.inj hu2
    conv => whnf
    intro t ht6
    have b2 := distL_drop xs ys hc (i + 1) k
    have ht6 : t = (u == IntKind.wrap .i64 (u2 + 2)) := ht6
    have he : u = IntKind.wrap .i64 (u2 + 2) := by
      rw [wrapS _ (by omega) (by omega), ← hu, ← hu2, dx, hdy, distL_nilR, distL_nilR]
      simp; omega
    obtain rfl : t = true := by rw [ht6]; simpa using he
    conv => whnf
    refine ⟨(xs.length - (i + 1)) + (ys.length - k), by omega, i + 1, k, out, by omega, by omega, rfl, by omega, ?_, ?_⟩
    · rw [hdy, dx, pathL] at hp
      rw [hdy]; exact hp
    · exact back _ _ _ _ _ _ wi1 rfl rfl
  obtain rfl : t = true := ofDec ht4 (by omega)
  obtain ⟨y, hy1⟩ : ∃ y, ys[k]? = some y := ⟨ys[k], List.getElem?_eq_getElem (by omega)⟩
  have dy := drop_cons hy1
  have my := List.mem_of_getElem? hy1
  have wk1 : IntKind.wrap .i64 ((k : Int) + 1) = ((k + 1 : Nat) : Int) := wrap_succ hky (by omega)
  have hcc := hc _ mx _ my
  have b1 := distL_drop xs ys hc (i + 1) (k + 1)
  have b2 := distL_drop xs ys hc (i + 1) k
  rw [dx, dy, pathL, ← dx, ← dy] at hp
  have g33 := h33 x.2 y.2
  generalize costV x.2 y.2 = c at hcc g33 hp
  obtain ⟨sx, kx, nx, tx, fx⟩ := x
  obtain ⟨sy, ky, ny, ty, fy⟩ := y
  conv => whnf
  refine ⟨(by rw [tl]; omega : (0 : Int) ≤ i ∧ (i : Int) < (T.length : Int)), fun (r : List Int) (hr : T[(i : Int).toNat]? = some r) => ?_⟩
  have hh : rwT xs ys i = r := by
    have q0 := tg i (by omega)
    rw [Int.toNat_natCast, q0] at hr
    exact Option.some.inj hr
  subst hh
  conv => whnf
  refine ⟨(by rw [rwT_len]; omega : (0 : Int) ≤ k ∧ (k : Int) < ((rwT xs ys i).length : Int)), fun (u : Int) (hu : (rwT xs ys i)[(k : Int).toNat]? = some u) => ?_⟩
  rw [Int.toNat_natCast, rwT_get xs ys i k (by omega)] at hu
  replace hu := Option.some.inj hu
  conv => whnf
  refine ⟨(by rw [tl, wi1]; omega : (0 : Int) ≤ IntKind.wrap .i64 ((i : Int) + 1) ∧ IntKind.wrap .i64 ((i : Int) + 1) < (T.length : Int)), fun (r : List Int) (hr : T[(IntKind.wrap .i64 ((i : Int) + 1)).toNat]? = some r) => ?_⟩
  have hh : rwT xs ys (i + 1) = r := by
    have q0 := tg (i + 1) (by omega)
    rw [wi1, Int.toNat_natCast, q0] at hr
    exact Option.some.inj hr
  subst hh
  conv => whnf
  refine ⟨(by rw [rwT_len, wk1]; omega : (0 : Int) ≤ IntKind.wrap .i64 ((k : Int) + 1) ∧ IntKind.wrap .i64 ((k : Int) + 1) < ((rwT xs ys (i + 1)).length : Int)), fun (u2 : Int) (hu2 : (rwT xs ys (i + 1))[(IntKind.wrap .i64 ((k : Int) + 1)).toNat]? = some u2) => ?_⟩
  rw [wk1, Int.toNat_natCast, rwT_get xs ys (i + 1) (k + 1) (by omega)] at hu2
  replace hu2 := Option.some.inj hu2
  conv => whnf
  refine ⟨(⟨by omega, by omega⟩ : (0 : Int) ≤ i ∧ (i : Int) < xs.length), fun (x' : ByteArray × V) (hx' : xs[(i : Int).toNat]? = some x') => ?_⟩
  obtain rfl : (sx, V.mk kx nx tx fx) = x' := by simpa [hx1] using hx'
  conv => whnf
  refine ⟨(⟨by omega, by omega⟩ : (0 : Int) ≤ k ∧ (k : Int) < ys.length), fun (y' : ByteArray × V) (hy' : ys[(k : Int).toNat]? = some y') => ?_⟩
  obtain rfl : (sy, V.mk ky ny ty fy) = y' := by simpa [hy1] using hy'
  conv => whnf
  refine ⟨[], ?_⟩
  conv => whnf
  refine g33 _ ?_
  conv => whnf
  intro t ht6
  have ht6 : t = (u == IntKind.wrap .i64 (u2 + c)) := ht6
  rw [wrapS _ (by omega) (by omega), ← hu, ← hu2] at ht6
  cases t
  rotate_left
  · have he := ht6.symm
    simp only [beq_iff_eq] at he
    rw [if_pos he] at hp
    conv => whnf
    refine ⟨rfl, rfl, ?_⟩
    conv => whnf
    refine ⟨rfl, ?_⟩
    conv => whnf
    refine ⟨(by omega : out.length + 1 ≤ 68719476736), ?_⟩
    conv => whnf
    refine ⟨(xs.length - (i + 1)) + (ys.length - (k + 1)), by omega, i + 1, k + 1, out ++ [((i : Int), (k : Int))], by omega, by omega, rfl, by simp; omega, ?_, ?_⟩
    · rw [List.append_assoc]; exact hp
    · exact back _ _ _ _ _ _ wi1 wk1 (by simp)
  have he : ¬ distL (xs.drop i) (ys.drop k) = distL (xs.drop (i + 1)) (ys.drop (k + 1)) + c := by
    have := ht6.symm
    simpa using this
  rw [if_neg he] at hp
  conv => whnf
  intro _
  conv => whnf
  intro t (ht7 : t = decide ((i : Int) < xs.length))
  obtain rfl : t = true := ofDec ht7 (by omega)
  conv => whnf
  refine ⟨(by rw [tl]; omega : (0 : Int) ≤ i ∧ (i : Int) < (T.length : Int)), fun (r : List Int) (hr : T[(i : Int).toNat]? = some r) => ?_⟩
  have hh : rwT xs ys i = r := by
    have q0 := tg i (by omega)
    rw [Int.toNat_natCast, q0] at hr
    exact Option.some.inj hr
  subst hh
  conv => whnf
  refine ⟨(by rw [rwT_len]; omega : (0 : Int) ≤ k ∧ (k : Int) < ((rwT xs ys i).length : Int)), fun (u : Int) (hu : (rwT xs ys i)[(k : Int).toNat]? = some u) => ?_⟩
  rw [Int.toNat_natCast, rwT_get xs ys i k (by omega)] at hu
  replace hu := Option.some.inj hu
  conv => whnf
  refine ⟨(by rw [tl, wi1]; omega : (0 : Int) ≤ IntKind.wrap .i64 ((i : Int) + 1) ∧ IntKind.wrap .i64 ((i : Int) + 1) < (T.length : Int)), fun (r : List Int) (hr : T[(IntKind.wrap .i64 ((i : Int) + 1)).toNat]? = some r) => ?_⟩
  have hh : rwT xs ys (i + 1) = r := by
    have q0 := tg (i + 1) (by omega)
    rw [wi1, Int.toNat_natCast, q0] at hr
    exact Option.some.inj hr
  subst hh
  conv => whnf
  refine ⟨(by rw [rwT_len]; omega : (0 : Int) ≤ k ∧ (k : Int) < ((rwT xs ys (i + 1)).length : Int)), fun (u2 : Int) (hu2 : (rwT xs ys (i + 1))[(k : Int).toNat]? = some u2) => ?_⟩
  rw [Int.toNat_natCast, rwT_get xs ys (i + 1) k (by omega)] at hu2
  replace hu2 := Option.some.inj hu2
  conv => whnf
  intro t ht8
  have ht8 : t = (u == IntKind.wrap .i64 (u2 + 2)) := ht8
  rw [wrapS _ (by omega) (by omega), ← hu, ← hu2] at ht8
  cases t
  · have he : ¬ distL (xs.drop i) (ys.drop k) = distL (xs.drop (i + 1)) (ys.drop k) + 2 := by
      have := ht8.symm
      simpa using this
    rw [if_neg he] at hp
    conv => whnf
    refine ⟨(xs.length - i) + (ys.length - (k + 1)), by omega, i, k + 1, out, by omega, by omega, rfl, by omega, hp, back _ _ _ _ _ _ rfl wk1 rfl⟩
  · have he := ht8.symm
    simp only [beq_iff_eq] at he
    rw [if_pos he] at hp
    conv => whnf
    refine ⟨(xs.length - (i + 1)) + (ys.length - k), by omega, i + 1, k, out, by omega, by omega, rfl, by omega, hp, back _ _ _ _ _ _ wi1 rfl rfl⟩

end Go.Clap
