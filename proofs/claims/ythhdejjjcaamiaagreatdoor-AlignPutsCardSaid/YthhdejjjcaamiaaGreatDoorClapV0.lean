/- Contracts: comparing of numbers, strings, lists and values. -/
import Derived.Test.YthhdejjjcaamiaaGreatDoorClapI0
set_option linter.unusedVariables false
set_option linter.unusedSimpArgs false
namespace Go.Clap

abbrev RR := D TT → List (Id × Option (Ent TT)) → Prop
abbrev iD (n : Int) : D TT := .c (.int .i64 n)
abbrev bD (b : Bool) : D TT := .c (.bool b)
abbrev sD (s : ByteArray) : D TT := .c (.str s)
abbrev lD (c : Cd) (l : List (CU c)) : D TT := .c (.isl c l)
abbrev vD (v : V) : D TT := .agg (rowV v)

/-- A call that returns `d`, and touches nothing. -/
def Gives (O : Oracle TT) (f : Nat) (args : List (D TT)) (d : D TT) : Prop := ∀ R : RR, R d [] → O f args [] R

def cmpI (a b : Int) : Int := if a < b then -1 else if b < a then 1 else 0
def cmpB (a b : ByteArray) : Int := Lib.compareBytes a.data.toList b.data.toList
def orI : List Int → Int
  | [] => 0
  | a :: l => if a = 0 then orI l else a

variable {O : Oracle TT}

theorem vc59 (n : Int) (R : RR) (hR : R (bD false) []) : vcF (S := SS) O ir59 [iD n] [] R := by
  refine ⟨by show 1 ≤ 6; omega, rfl, ?_⟩
  conv => whnf
  intro t ht
  have : t = false := by rw [ht]; simp
  subst this
  exact ⟨[], .nil, hR⟩

theorem vc38 (h59 : ∀ n, Gives O 59 [iD n] (bD false)) (a b : Int) (R : RR) (hR : R (iD (cmpI a b)) []) : vcF (S := SS) O ir38 [iD a, iD b] [] R := by
  refine ⟨by show 2 ≤ 20; omega, rfl, ?_⟩
  conv => whnf
  refine ⟨[], ?_⟩
  conv => whnf
  refine h59 _ _ ?_
  conv => whnf
  refine ⟨[], ?_⟩
  conv => whnf
  refine h59 _ _ ?_
  conv => whnf
  intro t (ht : t = decide (a < b))
  cases t
  · have h : ¬ a < b := of_decide_eq_false ht.symm
    conv => whnf
    intro t (ht : t = decide (a > b))
    cases t
    · have h' : ¬ b < a := of_decide_eq_false ht.symm
      rw [cmpI, if_neg h, if_neg h'] at hR
      exact ⟨[], .nil, hR⟩
    · have h' : b < a := of_decide_eq_true ht.symm
      rw [cmpI, if_neg h, if_pos h'] at hR
      exact ⟨[], .nil, hR⟩
  · have h : a < b := of_decide_eq_true ht.symm
    rw [cmpI, if_pos h] at hR
    exact ⟨[], .nil, hR⟩

theorem vc78 (a b : ByteArray) (R : RR) (hR : R (iD (cmpB a b)) []) : vcF (S := SS) O ir78 [sD a, sD b] [] R := by
  refine ⟨by show 2 ≤ 8; omega, rfl, ?_⟩
  conv => whnf
  exact ⟨[], .nil, hR⟩

theorem vc54 (h78 : ∀ a b, Gives O 78 [sD a, sD b] (iD (cmpB a b))) (a b : ByteArray) (R : RR) (hR : R (iD (cmpB a b)) []) : vcF (S := SS) O ir54 [sD a, sD b] [] R := by
  refine ⟨by show 2 ≤ 8; omega, rfl, ?_⟩
  conv => whnf
  refine ⟨[], ?_⟩
  conv => whnf
  refine h78 _ _ _ ?_
  conv => whnf
  exact ⟨[], .nil, hR⟩

theorem drop_cons {α : Type} {l : List α} {i : Nat} {u : α} (hu : l[i]? = some u) : l.drop i = u :: l.drop (i + 1) := by
  obtain ⟨h1, h2⟩ := List.getElem?_eq_some_iff.1 hu
  rw [List.drop_eq_getElem_cons h1, h2]
theorem wrap_succ {i n : Nat} (h : i < n) (hn : n ≤ 9223372036854775807) : IntKind.wrap .i64 ((i : Int) + 1) = ((i + 1 : Nat) : Int) := by
  rw [IntKind.wrap_i64]; omega

abbrev fD (x : ByteArray × V) : D TT := .agg (.str x.1 :: rowV x.2)

def cmpL (c : ByteArray × V → ByteArray × V → Int) : List (ByteArray × V) → List (ByteArray × V) → Int
  | [], [] => 0
  | [], _ :: _ => -1
  | _ :: _, [] => 1
  | x :: xs, y :: ys => if c x y = 0 then cmpL c xs ys else c x y

theorem vc53 (l : List Int) (R : RR) (hR : R (iD (orI l)) []) : vcF (S := SS) O ir53 [lD .int l] [] R := by
  refine ⟨by show 1 ≤ 18; omega, rfl, ?_⟩
  conv => whnf
  intro (hlen : l.length ≤ 9223372036854775807)
  conv => whnf
  refine ⟨fun σ n => ∃ i : Nat, i ≤ l.length ∧ n = l.length - i ∧ orI l = orI (l.drop i) ∧
    σ.keep [3, 6, 7, 8] [] = ⟨[(3, iD 0), (6, lD .int l), (7, iD l.length), (8, iD i)], []⟩, ⟨l.length, 0, by omega, by omega, rfl, rfl⟩, ?_⟩
  rintro σ n ⟨i, hi, rfl, hor, hσ⟩
  unfold vcC
  rw [hσ]
  conv => whnf
  intro t (ht : t = decide ((i : Int) < l.length))
  cases t
  · have h : ¬ (i : Int) < l.length := of_decide_eq_false ht.symm
    have : l.drop i = [] := List.drop_eq_nil_of_le (by omega)
    rw [hor, this] at hR
    exact ⟨[], .nil, hR⟩
  · have h : (i : Int) < l.length := of_decide_eq_true ht.symm
    conv => whnf
    refine ⟨(⟨by omega, by omega⟩ : (0 : Int) ≤ i ∧ (i : Int) < l.length), fun (u : Int) (hu : l[(i : Int).toNat]? = some u) => ?_⟩
    conv => whnf
    have hu : l[i]? = some u := by simpa using hu
    have hd := drop_cons hu
    intro t (ht2 : t = (u != 0))
    cases t
    · have h2 : u = 0 := by simpa using ht2
      refine ⟨l.length - (i + 1), by omega, i + 1, by omega, rfl, ?_, ?_⟩
      · rw [hor, hd, orI, if_pos h2]
      · rw [← wrap_succ (show i < l.length by omega) hlen]
        rfl
    · have h2 : u ≠ 0 := by simpa using ht2
      rw [hor, hd, orI, if_neg h2] at hR
      exact ⟨[], .nil, hR⟩

theorem vc55 (f : Nat) (cf : ByteArray × V → ByteArray × V → Int) (xs ys : List (ByteArray × V)) (hf : ∀ x ∈ xs, ∀ y, Gives O f [fD x, fD y] (iD (cf x y))) (R : RR)
    (hR : R (iD (cmpL cf xs ys)) []) : vcF (S := SS) O ir55 [lD .fld xs, lD .fld ys, .c (.fn f [])] [] R := by
  refine ⟨by show 3 ≤ 39; omega, rfl, ?_⟩
  conv => whnf
  intro (hlen : xs.length ≤ 9223372036854775807)
  conv => whnf
  refine ⟨fun σ n => ∃ i : Nat, i ≤ xs.length ∧ i ≤ ys.length ∧ n = xs.length - i ∧ cmpL cf xs ys = cmpL cf (xs.drop i) (ys.drop i) ∧
    σ.keep [0, 1, 2, 11, 12, 13] [] = ⟨[(0, lD .fld xs), (1, lD .fld ys), (2, .c (.fn f [])), (11, lD .fld xs), (12, iD xs.length), (13, iD i)], []⟩, ⟨xs.length, 0, by omega, by omega, by omega, rfl, rfl⟩, ?_⟩
  rintro σ n ⟨i, hi, hi2, rfl, hor, hσ⟩
  unfold vcC
  rw [hσ]
  conv => whnf
  intro t (ht : t = decide ((i : Int) < xs.length))
  cases t
  · have h : ¬ (i : Int) < xs.length := of_decide_eq_false ht.symm
    have h0 : xs.drop i = [] := List.drop_eq_nil_of_le (by omega)
    rw [hor, h0] at hR
    conv => whnf
    intro _
    conv => whnf
    intro (hlen2 : ys.length ≤ 9223372036854775807)
    conv => whnf
    intro t (ht : t = decide ((xs.length : Int) < ys.length))
    cases t
    · have h2 : ¬ (xs.length : Int) < ys.length := of_decide_eq_false ht.symm
      have h0 : ys.drop i = [] := List.drop_eq_nil_of_le (by omega)
      rw [h0] at hR
      exact ⟨[], .nil, hR⟩
    · have h2 : (xs.length : Int) < ys.length := of_decide_eq_true ht.symm
      obtain ⟨y, hy⟩ : ∃ y, ys[i]? = some y := ⟨ys[i], List.getElem?_eq_getElem (by omega)⟩
      rw [drop_cons hy] at hR
      exact ⟨[], .nil, hR⟩
  · have h : (i : Int) < xs.length := of_decide_eq_true ht.symm
    conv => whnf
    refine ⟨(⟨by omega, by omega⟩ : (0 : Int) ≤ i ∧ (i : Int) < xs.length), fun (u : ByteArray × V) (hu : xs[(i : Int).toNat]? = some u) => ?_⟩
    have hu : xs[i]? = some u := by simpa using hu
    obtain ⟨s, k, n, t, fs⟩ := u
    conv => whnf
    intro (hlen2 : ys.length ≤ 9223372036854775807)
    conv => whnf
    intro t2 (ht2 : t2 = decide ((i : Int) ≥ ys.length))
    cases t2
    · have h2 : ¬ (i : Int) ≥ ys.length := of_decide_eq_false ht2.symm
      conv => whnf
      refine ⟨(⟨by omega, by omega⟩ : (0 : Int) ≤ i ∧ (i : Int) < ys.length), fun (u : ByteArray × V) (hu2 : ys[(i : Int).toNat]? = some u) => ?_⟩
      have hu2 : ys[i]? = some u := by simpa using hu2
      obtain ⟨s2, k2, n2, t2, fs2⟩ := u
      conv => whnf
      refine ⟨[], ?_⟩
      conv => whnf
      refine hf _ (List.mem_of_getElem? hu) (s2, .mk k2 n2 t2 fs2) _ ?_
      conv => whnf
      intro t3 (ht3 : t3 = (cf (s, .mk k n t fs) (s2, .mk k2 n2 t2 fs2) != 0))
      cases t3
      · have h3 : cf (s, .mk k n t fs) (s2, .mk k2 n2 t2 fs2) = 0 := by simpa using ht3
        refine ⟨xs.length - (i + 1), by omega, i + 1, by omega, by omega, rfl, ?_, ?_⟩
        · rw [hor, drop_cons hu, drop_cons hu2, cmpL, if_pos h3]
        · rw [← wrap_succ (show i < xs.length by omega) hlen]
          rfl
      · have h3 : cf (s, .mk k n t fs) (s2, .mk k2 n2 t2 fs2) ≠ 0 := by simpa using ht3
        rw [hor, drop_cons hu, drop_cons hu2, cmpL, if_neg h3] at hR
        exact ⟨[], .nil, hR⟩
    · have h2 : (i : Int) ≥ ys.length := of_decide_eq_true ht2.symm
      have : ys.drop i = [] := List.drop_eq_nil_of_le (by omega)
      rw [hor, this, drop_cons hu] at hR
      exact ⟨[], .nil, hR⟩

def ordI (n : Int) : Int :=
  if n < 0 then IntKind.wrap .i64 (-1 - IntKind.wrap .i64 (BitVec.ofInt IntKind.i64.bits n &&& BitVec.ofInt IntKind.i64.bits 9223372036854775807).toNat) else n

theorem vc52 (n : Int) (R : RR) (hR : R (iD (ordI n)) []) : vcF (S := SS) O ir52 [iD n] [] R := by
  refine ⟨by show 1 ≤ 9; omega, rfl, ?_⟩
  conv => whnf
  intro t (ht : t = decide (n < 0))
  cases t
  · have h : ¬ n < 0 := of_decide_eq_false ht.symm
    rw [ordI, if_neg h] at hR
    exact ⟨[], .nil, hR⟩
  · have h : n < 0 := of_decide_eq_true ht.symm
    rw [ordI, if_pos h] at hR
    exact ⟨[], .nil, hR⟩

def V.kind : V → Int
  | .mk k _ _ _ => k
def V.n : V → Int
  | .mk _ n _ _ => n
def V.s : V → ByteArray
  | .mk _ _ s _ => s
def V.fs : V → List (ByteArray × V)
  | .mk _ _ _ fs => fs

/-- What Cmp says of two values, apart from their parts. -/
def headI (a b : V) : Int :=
  orI [cmpI a.kind b.kind, if a.kind = 3 then cmpI (ordI a.n) (ordI b.n) else cmpI a.n b.n, cmpB a.s b.s]

mutual
def cmpV : V → V → Int
  | .mk k n s fs, w => if headI (.mk k n s fs) w = 0 then cmpFs fs w.fs else headI (.mk k n s fs) w
def cmpFs : List (ByteArray × V) → List (ByteArray × V) → Int
  | [], [] => 0
  | [], _ :: _ => -1
  | _ :: _, [] => 1
  | (s, v) :: xs, (t, w) :: ys => if orI [cmpB s t, cmpV v w] = 0 then cmpFs xs ys else orI [cmpB s t, cmpV v w]
end

def cmpF (x y : ByteArray × V) : Int := orI [cmpB x.1 y.1, cmpV x.2 y.2]

theorem cmpFs_eq : ∀ xs ys, cmpFs xs ys = cmpL cmpF xs ys
  | [], [] => by simp [cmpFs, cmpL]
  | [], _ :: _ => by simp [cmpFs, cmpL]
  | _ :: _, [] => by simp [cmpFs, cmpL]
  | (s, v) :: xs, (t, w) :: ys => by rw [cmpFs, cmpL, cmpFs_eq xs ys]; rfl

theorem vc56 (h54 : ∀ a b, Gives O 54 [sD a, sD b] (iD (cmpB a b))) (h53 : ∀ l : List Int, Gives O 53 [lD .int l] (iD (orI l)))
    (x y : ByteArray × V) (h34 : Gives O 34 [vD x.2, vD y.2] (iD (cmpV x.2 y.2))) (R : RR) (hR : R (iD (cmpF x y)) []) : vcF (S := SS) O ir56 [fD x, fD y] [] R := by
  obtain ⟨s, k, n, t, fs⟩ := x
  obtain ⟨s2, k2, n2, t2, fs2⟩ := y
  refine ⟨by show 2 ≤ 17; omega, rfl, ?_⟩
  conv => whnf
  refine ⟨[], ?_⟩
  conv => whnf
  refine h54 _ _ _ ?_
  conv => whnf
  refine ⟨[], ?_⟩
  conv => whnf
  refine h34 _ ?_
  conv => whnf
  refine ⟨[], ?_⟩
  conv => whnf
  refine h53 _ _ ?_
  conv => whnf
  exact ⟨[], .nil, hR⟩

theorem vc34 (h52 : ∀ n, Gives O 52 [iD n] (iD (ordI n))) (h38 : ∀ a b, Gives O 38 [iD a, iD b] (iD (cmpI a b)))
    (h54 : ∀ a b, Gives O 54 [sD a, sD b] (iD (cmpB a b))) (h53 : ∀ l : List Int, Gives O 53 [lD .int l] (iD (orI l)))
    (a b : V) (h55 : Gives O 55 [lD .fld a.fs, lD .fld b.fs, .c (.fn 56 [])] (iD (cmpFs a.fs b.fs)))
    (R : RR) (hR : R (iD (cmpV a b)) []) : vcF (S := SS) O ir34 [vD a, vD b] [] R := by
  obtain ⟨k1, n1, s1, fs1⟩ := a
  obtain ⟨k2, n2, s2, fs2⟩ := b
  refine ⟨by show 2 ≤ 42; omega, rfl, ?_⟩
  conv => whnf
  intro t (ht : t = (k1 == 3))
  cases t
  · have hk : ¬ k1 = 3 := by simpa using ht
    have hh : orI [cmpI k1 k2, cmpI n1 n2, cmpB s1 s2] = headI (.mk k1 n1 s1 fs1) (.mk k2 n2 s2 fs2) := by
      show _ = orI [cmpI k1 k2, if k1 = 3 then cmpI (ordI n1) (ordI n2) else cmpI n1 n2, cmpB s1 s2]
      rw [if_neg hk]
    conv => whnf
    refine ⟨[], ?_⟩
    conv => whnf
    refine h38 _ _ _ ?_
    conv => whnf
    refine ⟨[], ?_⟩
    conv => whnf
    refine h38 _ _ _ ?_
    conv => whnf
    refine ⟨[], ?_⟩
    conv => whnf
    refine h54 _ _ _ ?_
    conv => whnf
    refine ⟨[], ?_⟩
    conv => whnf
    refine h53 _ _ ?_
    conv => whnf
    intro t2 (ht2 : t2 = (orI [cmpI k1 k2, cmpI n1 n2, cmpB s1 s2] != 0))
    rw [hh] at ht2
    cases t2
    · have h : headI (.mk k1 n1 s1 fs1) (.mk k2 n2 s2 fs2) = 0 := by simpa using ht2
      rw [cmpV, if_pos h] at hR
      conv => whnf
      refine ⟨[], ?_⟩
      conv => whnf
      refine h55 _ ?_
      conv => whnf
      exact ⟨[], .nil, hR⟩
    · have h : headI (.mk k1 n1 s1 fs1) (.mk k2 n2 s2 fs2) ≠ 0 := by simpa using ht2
      rw [cmpV, if_neg h, ← hh] at hR
      exact ⟨[], .nil, hR⟩
  · have hk : k1 = 3 := by simpa using ht
    have hh : orI [cmpI k1 k2, cmpI (ordI n1) (ordI n2), cmpB s1 s2] = headI (.mk k1 n1 s1 fs1) (.mk k2 n2 s2 fs2) := by
      show _ = orI [cmpI k1 k2, if k1 = 3 then cmpI (ordI n1) (ordI n2) else cmpI n1 n2, cmpB s1 s2]
      rw [if_pos hk]
    conv => whnf
    refine ⟨[], ?_⟩
    conv => whnf
    refine h52 _ _ ?_
    conv => whnf
    refine ⟨[], ?_⟩
    conv => whnf
    refine h52 _ _ ?_
    conv => whnf
    refine ⟨[], ?_⟩
    conv => whnf
    refine h38 _ _ _ ?_
    conv => whnf
    refine ⟨[], ?_⟩
    conv => whnf
    refine h38 _ _ _ ?_
    conv => whnf
    refine ⟨[], ?_⟩
    conv => whnf
    refine h54 _ _ _ ?_
    conv => whnf
    refine ⟨[], ?_⟩
    conv => whnf
    refine h53 _ _ ?_
    conv => whnf
    intro t2 (ht2 : t2 = (orI [cmpI k1 k2, cmpI (ordI n1) (ordI n2), cmpB s1 s2] != 0))
    rw [hh] at ht2
    cases t2
    · have h : headI (.mk k1 n1 s1 fs1) (.mk k2 n2 s2 fs2) = 0 := by simpa using ht2
      rw [cmpV, if_pos h] at hR
      conv => whnf
      refine ⟨[], ?_⟩
      conv => whnf
      refine h55 _ ?_
      conv => whnf
      exact ⟨[], .nil, hR⟩
    · have h : headI (.mk k1 n1 s1 fs1) (.mk k2 n2 s2 fs2) ≠ 0 := by simpa using ht2
      rw [cmpV, if_neg h, ← hh] at hR
      exact ⟨[], .nil, hR⟩

theorem vc11 (a b : V) (h34 : Gives O 34 [vD a, vD b] (iD (cmpV a b))) (R : RR) (hR : R (bD (decide (cmpV a b = 0))) []) : vcF (S := SS) O ir11 [vD a, vD b] [] R := by
  obtain ⟨k1, n1, s1, fs1⟩ := a
  obtain ⟨k2, n2, s2, fs2⟩ := b
  refine ⟨by show 2 ≤ 9; omega, rfl, ?_⟩
  conv => whnf
  refine ⟨[], ?_⟩
  conv => whnf
  refine h34 _ ?_
  conv => whnf
  intro t (ht : t = (cmpV (.mk k1 n1 s1 fs1) (.mk k2 n2 s2 fs2) == 0))
  subst ht
  exact ⟨[], .nil, hR⟩

end Go.Clap
