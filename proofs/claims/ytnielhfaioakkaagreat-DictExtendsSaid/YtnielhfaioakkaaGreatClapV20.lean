/- Contracts: the check of a lookup. -/
import Derived.Test.YtnielhfaioakkaaGreatClapI5
import Derived.Test.YtnielhfaioakkaaGreatClapV14
import Derived.Test.YtnielhfaioakkaaGreatClapV11
set_option linter.unusedVariables false
set_option linter.unusedSimpArgs false
namespace Go.Clap
variable {O : Oracle TT}

abbrev lnD (l : Ln) : D TT := .agg (rowL l)
abbrev WL := List (V × V)
def lookL (ps : WL) : Ln := .mk 11 ⟨#[]⟩ ⟨#[]⟩ [] 0 0 0 0 zeroV ps []
def plainB (k : Int) : Bool := ((k == 1 || k == 2) || k == 4) || k == 5

theorem vc158 (k : Int) (R : RR) (hR : R (bD (plainB k)) []) : vcF (S := SS) O ir158 [iD k] [] R := by
  refine ⟨Nat.le_of_ble_eq_true rfl, rfl, ?_⟩
  unfold plainB at hR
  repeat' (conv => whnf
           first
           | (intro t ht; try rw [← ht] at hR
              cases t)
           | exact ⟨[], .nil, hR⟩)

theorem vc94 (ps : WL) (R : RR) (hR : R (iD 1) []) : vcF (S := SS) O ir94 [lnD (lookL ps)] [] R := by
  refine ⟨Nat.le_of_ble_eq_true rfl, rfl, ?_⟩
  conv => whnf
  intro _
  conv => whnf
  refine ⟨fun σ n => n = 0 ∧ σ.keep [3, 7, 8, 9] [] = ⟨[(3, iD 1), (7, lD .lens []), (8, iD 0), (9, iD 0)], []⟩, ⟨0, rfl, rfl⟩, ?_⟩
  rintro σ n ⟨rfl, hσ⟩
  unfold vcC
  rw [hσ]
  conv => whnf
  intro t ht
  obtain rfl : t = false := ht
  exact ⟨[], .nil, hR⟩

theorem vc95 (ps : WL) (R : RR) (hR : R (iD 1) []) : vcF (S := SS) O ir95 [lnD (lookL ps)] [] R := by
  refine ⟨Nat.le_of_ble_eq_true rfl, rfl, ?_⟩
  conv => whnf
  intro _
  conv => whnf
  refine ⟨fun σ n => n = 0 ∧ σ.keep [3, 7, 8, 9] [] = ⟨[(3, iD 0), (7, lD .lens []), (8, iD 0), (9, iD 0)], []⟩, ⟨0, rfl, rfl⟩, ?_⟩
  rintro σ n ⟨rfl, hσ⟩
  unfold vcC
  rw [hσ]
  conv => whnf
  intro t ht
  obtain rfl : t = false := ht
  exact ⟨[], .nil, hR⟩

theorem vc144 (R : RR) (hR : R (.agg [.bool false, .bool false, .bool false, .bool false, .bool false, .bool false, .bool false, .bool true, .int .i64 0]) []) : vcF (S := SS) O ir144 [iD 11] [] R := by
  refine ⟨Nat.le_of_ble_eq_true rfl, rfl, ?_⟩
  repeat' (conv => whnf
           first
           | exact ⟨[], .nil, hR⟩
           | (intro t ht
              first
              | (obtain rfl : t = false := ht)
              | (obtain rfl : t = true := ht)))

theorem vc145 (ps : WL) (h161 : Gives O 161 [lD .two ps] (iD 0)) (R : RR) (hR : R (iD 0) []) : vcF (S := SS) O ir145 [lnD (lookL ps)] [] R := by
  refine ⟨Nat.le_of_ble_eq_true rfl, rfl, ?_⟩
  repeat' (conv => whnf
           first
           | exact ⟨[], .nil, hR⟩
           | (refine ⟨[], ?_⟩
              conv => whnf
              refine h161 _ ?_)
           | (intro t ht
              first
              | (obtain rfl : t = false := ht)
              | (obtain rfl : t = true := ht)))

theorem vc116 (ps : WL) (hne : ps ≠ []) (h144 : Gives O 144 [iD 11] (.agg [.bool false, .bool false, .bool false, .bool false, .bool false, .bool false, .bool false, .bool true, .int .i64 0]))
    (h11 : Gives O 11 [vD zeroV, vD zeroV] (bD true)) (h145 : Gives O 145 [lnD (lookL ps)] (iD 0)) (R : RR) (hR : R (iD 0) []) : vcF (S := SS) O ir116 [lnD (lookL ps)] [] R := by
  have hpos : (ps.length : Int) > 0 := by
    have : ps.length ≠ 0 := by rwa [Ne, List.length_eq_zero_iff]
    omega
  refine ⟨Nat.le_of_ble_eq_true rfl, rfl, ?_⟩
  repeat' (conv => whnf
           first
           | exact ⟨[], .nil, hR⟩
           | (refine ⟨[], ?_⟩
              conv => whnf
              first
              | refine h144 _ ?_
              | refine h11 _ ?_
              | refine h145 _ ?_)
           | (intro t ht
              first
              | (obtain rfl : t = false := ht)
              | (obtain rfl : t = true := ht)
              | (have ht : t = !((ByteArray.mk #[]).toList == (ByteArray.mk #[]).toList) := ht
                 have ht : t = false := by rw [ht]; simp
                 subst ht)
              | (have ht : t = decide ((ps.length : Int) > 0) := ht
                 have ht := ofDec ht hpos
                 subst ht))
           | intro _)

theorem vc96 (ps : WL) (h116 : Gives O 116 [lnD (lookL ps)] (iD 0)) (R : RR) (hR : R (iD 0) []) : vcF (S := SS) O ir96 [lnD (lookL ps)] [] R := by
  refine ⟨Nat.le_of_ble_eq_true rfl, rfl, ?_⟩
  conv => whnf
  refine ⟨[], ?_⟩
  conv => whnf
  refine h116 _ ?_
  conv => whnf
  intro t ht
  obtain rfl : t = false := ht
  conv => whnf
  intro _
  conv => whnf
  refine ⟨fun σ n => n = 0 ∧ σ.keep [13, 14, 15] [] = ⟨[(13, lD .lens []), (14, iD 0), (15, iD 0)], []⟩, ⟨0, rfl, rfl⟩, ?_⟩
  rintro σ n ⟨rfl, hσ⟩
  unfold vcC
  rw [hσ]
  conv => whnf
  intro t ht
  obtain rfl : t = false := ht
  exact ⟨[], .nil, hR⟩

theorem vc70 (ps : WL) (h94 : Gives O 94 [lnD (lookL ps)] (iD 1)) (h95 : Gives O 95 [lnD (lookL ps)] (iD 1)) (h96 : Gives O 96 [lnD (lookL ps)] (iD 0)) (R : RR) (hR : R (iD 0) []) :
    vcF (S := SS) O ir70 [lnD (lookL ps)] [] R := by
  refine ⟨Nat.le_of_ble_eq_true rfl, rfl, ?_⟩
  conv => whnf
  refine ⟨[], ?_⟩
  conv => whnf
  refine h94 _ ?_
  conv => whnf
  intro t ht
  obtain rfl : t = false := ht
  conv => whnf
  refine ⟨[], ?_⟩
  conv => whnf
  refine h95 _ ?_
  conv => whnf
  intro t ht
  obtain rfl : t = false := ht
  conv => whnf
  refine ⟨[], ?_⟩
  conv => whnf
  refine h96 _ ?_
  exact ⟨[], .nil, hR⟩

theorem vc46 (ps : WL) (h70 : Gives O 70 [lnD (lookL ps)] (iD 0)) (R : RR) (hR : R (iD 0) []) : vcF (S := SS) O ir46 [lD .two ps] [] R := by
  refine ⟨Nat.le_of_ble_eq_true rfl, rfl, ?_⟩
  conv => whnf
  refine ⟨[], ?_⟩
  conv => whnf
  refine h70 _ ?_
  exact ⟨[], .nil, hR⟩

/-- A lookup that is well-formed. -/
structure VP (ps : WL) : Prop where
  pos : 1 ≤ ps.length
  len : ps.length ≤ 40
  ok : ∀ p ∈ ps, checkV p.1 = 0 ∧ checkV p.2 = 0
  plain : ∀ p ∈ ps, plainB p.1.kind = true ∧ plainB p.2.kind = true
  kinds : ∀ p ∈ ps, ∀ q ∈ ps, p.1.kind = q.1.kind ∧ p.2.kind = q.2.kind
  diff : ∀ (i j : Nat) p q, j < i → ps[i]? = some p → ps[j]? = some q → cmpV p.1 q.1 ≠ 0 ∧ cmpV p.2 q.2 ≠ 0

end Go.Clap

set_option linter.unusedVariables false
set_option linter.unusedSimpArgs false
namespace Go.Clap
variable {O : Oracle TT}

abbrev twD (p : V × V) : D TT := .agg (rowV p.1 ++ rowV p.2)
abbrev twC (p : V × V) : List (C TT) := rowV p.1 ++ rowV p.2

set_option maxHeartbeats 4000000 in
theorem vc161 (h51 : ∀ v, Gives O 51 [vD v] (iD (checkV v))) (h158 : ∀ k, Gives O 158 [iD k] (bD (plainB k))) (h11 : ∀ a b, Gives O 11 [vD a, vD b] (bD (decide (cmpV a b = 0))))
    (ps : WL) (hv : VP ps) (R : RR) (hR : R (iD 0) []) : vcF (S := SS) O ir161 [lD .two ps] [] R := by
  obtain ⟨hpos, hlen, hok, hplain, hkinds, hdiff⟩ := hv
  refine ⟨Nat.le_of_ble_eq_true rfl, rfl, ?_⟩
  conv => whnf
  intro _
  conv => whnf
  intro t (ht : t = ((ps.length : Int) == 0))
  have ht : t = false := by
    rw [ht]
    exact beq_eq_false_iff_ne.mpr (by omega)
  subst ht
  conv => whnf
  intro _
  conv => whnf
  intro t (ht : t = decide ((ps.length : Int) > 40))
  have ht : t = false := ofDecN ht (by omega)
  subst ht
  conv => whnf
  intro _
  conv => whnf
  refine ⟨fun σ n => ∃ i : Nat, i ≤ ps.length ∧ n = ps.length - i ∧ σ.keep [0, 15, 16, 17] [] = ⟨[(0, lD .two ps), (15, lD .two ps), (16, iD ps.length), (17, iD i)], []⟩, ⟨ps.length, 0, by omega, by omega, rfl⟩, ?_⟩
  rintro σ n ⟨i, hi, rfl, hσ⟩
  unfold vcC
  rw [hσ]
  conv => whnf
  intro t (ht : t = decide ((i : Int) < ps.length))
  cases t
  · exact ⟨[], .nil, hR⟩
  have h : (i : Int) < ps.length := of_decide_eq_true ht.symm
  have back : ∀ z : Int, z = ((i + 1 : Nat) : Int) → (⟨[(0, lD .two ps), (15, lD .two ps), (16, iD ps.length), (17, iD z)], []⟩ : St TT) =
    ⟨[(0, lD .two ps), (15, lD .two ps), (16, iD ps.length), (17, iD ((i + 1 : Nat) : Int))], []⟩ := by rintro _ rfl; rfl
  have wi : IntKind.wrap .i64 ((i : Int) + 1) = ((i + 1 : Nat) : Int) := wrapS _ (by omega) (by omega)
  conv => whnf
  refine ⟨(⟨by omega, by omega⟩ : (0 : Int) ≤ i ∧ (i : Int) < ps.length), fun (p : V × V) (hp : ps[(i : Int).toNat]? = some p) => ?_⟩
  have hp : ps[i]? = some p := by simpa using hp
  have hpm := List.mem_of_getElem? hp
  have hck := hok p hpm
  have hpl := hplain p hpm
  have hdf : ∀ q ∈ ps.take i, cmpV p.1 q.1 ≠ 0 ∧ cmpV p.2 q.2 ≠ 0 := fun q hq => by
    obtain ⟨j, hj⟩ := List.getElem?_of_mem hq
    rw [List.getElem?_take] at hj
    split at hj
    · exact hdiff i j p q (by assumption) hp hj
    · cases hj
  obtain ⟨f0, hf0⟩ : ∃ f0, ps[0]? = some f0 := ⟨ps[0], List.getElem?_eq_getElem (by omega)⟩
  have hkk := hkinds p hpm f0 (List.mem_of_getElem? hf0)
  obtain ⟨⟨k1, n1, s1, f1⟩, ⟨k2, n2, s2, f2⟩⟩ := p
  obtain ⟨⟨k3, n3, s3, f3⟩, ⟨k4, n4, s4, f4⟩⟩ := f0
  have g51a := h51 (.mk k1 n1 s1 f1)
  rw [show checkV (.mk k1 n1 s1 f1) = 0 from hck.1] at g51a
  have g51b := h51 (.mk k2 n2 s2 f2)
  rw [show checkV (.mk k2 n2 s2 f2) = 0 from hck.2] at g51b
  have g158a := h158 k1
  rw [show plainB k1 = true from hpl.1] at g158a
  have g158b := h158 k2
  rw [show plainB k2 = true from hpl.2] at g158b
  obtain rfl : k1 = k3 := hkk.1
  obtain rfl : k2 = k4 := hkk.2
  have g11a : ∀ q ∈ ps.take i, Gives O 11 [vD (.mk k1 n1 s1 f1), vD q.1] (bD false) := fun q hq => by
    have := h11 (.mk k1 n1 s1 f1) q.1
    rwa [decide_eq_false (hdf q hq).1] at this
  have g11b : ∀ q ∈ ps.take i, Gives O 11 [vD (.mk k2 n2 s2 f2), vD q.2] (bD false) := fun q hq => by
    have := h11 (.mk k2 n2 s2 f2) q.2
    rwa [decide_eq_false (hdf q hq).2] at this
  conv => whnf
  refine ⟨fun σ n => ∃ k : Nat, k ≤ 2 ∧ n = 2 - k ∧ σ.keep [0, 3, 4, 15, 16, 17, 22] [.s 4] =
    ⟨[(0, lD .two ps), (3, iD i), (4, .c (.ptr (.s 4) 0 0)), (15, lD .two ps), (16, iD ps.length), (17, iD i), (22, iD k)], [(.s 4, some (.var [.int .i64 k1, .int .i64 n1, .str s1, .isl .fld f1, .int .i64 k2, .int .i64 n2, .str s2, .isl .fld f2]))]⟩, ⟨2, 0, by omega, by omega, rfl⟩, ?_⟩
  rintro σ n ⟨k, hk, rfl, hσ⟩
  unfold vcC
  rw [hσ]
  have h3 : k = 0 ∨ k = 1 ∨ k = 2 := by omega
  have htl : (ps.drop 0).take ((i : Int).toNat - 0) = ps.take i := by simp
  rcases h3 with rfl | rfl | rfl
  rotate_left 2
  · conv => whnf
    intro t ht
    obtain rfl : t = false := ht
    conv => whnf
    exact ⟨ps.length - (i + 1), by omega, i + 1, by omega, rfl, back _ wi⟩
  all_goals
    conv => whnf
    intro t ht
    obtain rfl : t = true := ht
    conv => whnf
    refine ⟨by decide, ?_⟩
    conv => whnf
    refine ⟨[], ?_⟩
    conv => whnf
    first
    | refine g51a _ ?_
    | refine g51b _ ?_
    conv => whnf
    intro t ht
    obtain rfl : t = false := ht
    conv => whnf
    refine ⟨by decide, ?_⟩
    conv => whnf
    refine ⟨[], ?_⟩
    conv => whnf
    first
    | refine g158a _ ?_
    | refine g158b _ ?_
    conv => whnf
    refine ⟨by decide, ?_⟩
    conv => whnf
    refine ⟨(⟨by omega, by omega⟩ : (0 : Int) ≤ 0 ∧ (0 : Int) < ps.length), fun (q : V × V) (hq : ps[(0 : Int).toNat]? = some q) => ?_⟩
    have hq : ps[0]? = some q := hq
    rw [hf0] at hq
    obtain rfl := Option.some.inj hq
    conv => whnf
    refine ⟨by decide, ?_⟩
    conv => whnf
    intro t ht
    have ht : t = false := by
      first
      | (have ht : t = (k1 != k1) := ht
         simpa using ht)
      | (have ht : t = (k2 != k2) := ht
         simpa using ht)
    subst ht
    conv => whnf
    refine ⟨(by omega : (0 : Int) ≤ i), ?_⟩
    conv => whnf
    refine ⟨(⟨by omega, by omega⟩ : 0 ≤ (i : Int).toNat ∧ (i : Int).toNat ≤ ps.length), ?_⟩
    conv => whnf
    intro _
    conv => whnf
  · have key : ∀ l : WL, l = ps.take i → (⟨[(0, lD .two ps), (3, iD i), (4, .c (.ptr (.s 4) 0 0)), (5, iD 0), (15, lD .two ps), (16, iD ps.length), (17, iD i), (22, iD 0), (53, lD .two l), (54, iD l.length), (55, iD 0)], [(.s 4, some (.var [.int .i64 k1, .int .i64 n1, .str s1, .isl .fld f1, .int .i64 k2, .int .i64 n2, .str s2, .isl .fld f2]))]⟩ : St TT) =
      ⟨[(0, lD .two ps), (3, iD i), (4, .c (.ptr (.s 4) 0 0)), (5, iD 0), (15, lD .two ps), (16, iD ps.length), (17, iD i), (22, iD 0), (53, lD .two (ps.take i)), (54, iD (ps.take i).length), (55, iD 0)], [(.s 4, some (.var [.int .i64 k1, .int .i64 n1, .str s1, .isl .fld f1, .int .i64 k2, .int .i64 n2, .str s2, .isl .fld f2]))]⟩ := by rintro _ rfl; rfl
    have hll : (ps.take i).length ≤ 40 := by simp; omega
    refine ⟨fun σ n => ∃ j : Nat, j ≤ (ps.take i).length ∧ n = (ps.take i).length - j ∧ σ.keep [0, 3, 4, 5, 15, 16, 17, 22, 53, 54, 55] [.s 4] =
      ⟨[(0, lD .two ps), (3, iD i), (4, .c (.ptr (.s 4) 0 0)), (5, iD 0), (15, lD .two ps), (16, iD ps.length), (17, iD i), (22, iD 0), (53, lD .two (ps.take i)), (54, iD (ps.take i).length), (55, iD j)], [(.s 4, some (.var [.int .i64 k1, .int .i64 n1, .str s1, .isl .fld f1, .int .i64 k2, .int .i64 n2, .str s2, .isl .fld f2]))]⟩,
      ⟨(ps.take i).length, 0, by omega, by omega, key _ htl⟩, ?_⟩
    clear key htl
    generalize ps.take i = l at g11a g11b hll
    rintro σ n ⟨j, hj, rfl, hσ⟩
    unfold vcC
    rw [hσ]
    conv => whnf
    intro t (ht : t = decide ((j : Int) < l.length))
    cases t
    · conv => whnf
      exact ⟨2 - (0 + 1), by omega, 0 + 1, by omega, rfl, rfl⟩
    have h2 : (j : Int) < l.length := of_decide_eq_true ht.symm
    have back2 : ∀ z : Int, z = ((j + 1 : Nat) : Int) → (⟨[(0, lD .two ps), (3, iD i), (4, .c (.ptr (.s 4) 0 0)), (5, iD 0), (15, lD .two ps), (16, iD ps.length), (17, iD i), (22, iD 0), (53, lD .two l), (54, iD l.length), (55, iD z)], [(.s 4, some (.var [.int .i64 k1, .int .i64 n1, .str s1, .isl .fld f1, .int .i64 k2, .int .i64 n2, .str s2, .isl .fld f2]))]⟩ : St TT) =
      ⟨[(0, lD .two ps), (3, iD i), (4, .c (.ptr (.s 4) 0 0)), (5, iD 0), (15, lD .two ps), (16, iD ps.length), (17, iD i), (22, iD 0), (53, lD .two l), (54, iD l.length), (55, iD ((j + 1 : Nat) : Int))], [(.s 4, some (.var [.int .i64 k1, .int .i64 n1, .str s1, .isl .fld f1, .int .i64 k2, .int .i64 n2, .str s2, .isl .fld f2]))]⟩ := by rintro _ rfl; rfl
    conv => whnf
    refine ⟨(⟨by omega, by omega⟩ : (0 : Int) ≤ j ∧ (j : Int) < l.length), fun (q : V × V) (hq : l[(j : Int).toNat]? = some q) => ?_⟩
    have hq : l[j]? = some q := by simpa using hq
    have ga := g11a q (List.mem_of_getElem? hq)
    obtain ⟨⟨k5, n5, s5, f5⟩, ⟨k6, n6, s6, f6⟩⟩ := q
    conv => whnf
    refine ⟨by decide, ?_⟩
    conv => whnf
    refine ⟨by decide, ?_⟩
    conv => whnf
    refine ⟨[], ?_⟩
    conv => whnf
    refine ga _ ?_
    conv => whnf
    exact ⟨l.length - (j + 1), by omega, j + 1, by omega, rfl, back2 _ (wrapS _ (by omega) (by omega))⟩
  · have key : ∀ l : WL, l = ps.take i → (⟨[(0, lD .two ps), (3, iD i), (4, .c (.ptr (.s 4) 0 0)), (5, iD 1), (15, lD .two ps), (16, iD ps.length), (17, iD i), (22, iD 1), (53, lD .two l), (54, iD l.length), (55, iD 0)], [(.s 4, some (.var [.int .i64 k1, .int .i64 n1, .str s1, .isl .fld f1, .int .i64 k2, .int .i64 n2, .str s2, .isl .fld f2]))]⟩ : St TT) =
      ⟨[(0, lD .two ps), (3, iD i), (4, .c (.ptr (.s 4) 0 0)), (5, iD 1), (15, lD .two ps), (16, iD ps.length), (17, iD i), (22, iD 1), (53, lD .two (ps.take i)), (54, iD (ps.take i).length), (55, iD 0)], [(.s 4, some (.var [.int .i64 k1, .int .i64 n1, .str s1, .isl .fld f1, .int .i64 k2, .int .i64 n2, .str s2, .isl .fld f2]))]⟩ := by rintro _ rfl; rfl
    have hll : (ps.take i).length ≤ 40 := by simp; omega
    refine ⟨fun σ n => ∃ j : Nat, j ≤ (ps.take i).length ∧ n = (ps.take i).length - j ∧ σ.keep [0, 3, 4, 5, 15, 16, 17, 22, 53, 54, 55] [.s 4] =
      ⟨[(0, lD .two ps), (3, iD i), (4, .c (.ptr (.s 4) 0 0)), (5, iD 1), (15, lD .two ps), (16, iD ps.length), (17, iD i), (22, iD 1), (53, lD .two (ps.take i)), (54, iD (ps.take i).length), (55, iD j)], [(.s 4, some (.var [.int .i64 k1, .int .i64 n1, .str s1, .isl .fld f1, .int .i64 k2, .int .i64 n2, .str s2, .isl .fld f2]))]⟩,
      ⟨(ps.take i).length, 0, by omega, by omega, key _ htl⟩, ?_⟩
    clear key htl
    generalize ps.take i = l at g11a g11b hll
    rintro σ n ⟨j, hj, rfl, hσ⟩
    unfold vcC
    rw [hσ]
    conv => whnf
    intro t (ht : t = decide ((j : Int) < l.length))
    cases t
    · conv => whnf
      exact ⟨2 - (1 + 1), by omega, 1 + 1, by omega, rfl, rfl⟩
    have h2 : (j : Int) < l.length := of_decide_eq_true ht.symm
    have back2 : ∀ z : Int, z = ((j + 1 : Nat) : Int) → (⟨[(0, lD .two ps), (3, iD i), (4, .c (.ptr (.s 4) 0 0)), (5, iD 1), (15, lD .two ps), (16, iD ps.length), (17, iD i), (22, iD 1), (53, lD .two l), (54, iD l.length), (55, iD z)], [(.s 4, some (.var [.int .i64 k1, .int .i64 n1, .str s1, .isl .fld f1, .int .i64 k2, .int .i64 n2, .str s2, .isl .fld f2]))]⟩ : St TT) =
      ⟨[(0, lD .two ps), (3, iD i), (4, .c (.ptr (.s 4) 0 0)), (5, iD 1), (15, lD .two ps), (16, iD ps.length), (17, iD i), (22, iD 1), (53, lD .two l), (54, iD l.length), (55, iD ((j + 1 : Nat) : Int))], [(.s 4, some (.var [.int .i64 k1, .int .i64 n1, .str s1, .isl .fld f1, .int .i64 k2, .int .i64 n2, .str s2, .isl .fld f2]))]⟩ := by rintro _ rfl; rfl
    conv => whnf
    refine ⟨(⟨by omega, by omega⟩ : (0 : Int) ≤ j ∧ (j : Int) < l.length), fun (q : V × V) (hq : l[(j : Int).toNat]? = some q) => ?_⟩
    have hq : l[j]? = some q := by simpa using hq
    have ga := g11b q (List.mem_of_getElem? hq)
    obtain ⟨⟨k5, n5, s5, f5⟩, ⟨k6, n6, s6, f6⟩⟩ := q
    conv => whnf
    refine ⟨by decide, ?_⟩
    conv => whnf
    refine ⟨by decide, ?_⟩
    conv => whnf
    refine ⟨[], ?_⟩
    conv => whnf
    refine ga _ ?_
    conv => whnf
    exact ⟨l.length - (j + 1), by omega, j + 1, by omega, rfl, back2 _ (wrapS _ (by omega) (by omega))⟩

/-! ### Finding -/
def prj (k : Nat) (p : V × V) : V := match k with
  | 0 => p.1
  | _ => p.2
def idxP (k : Nat) (v : V) : WL → Int → Int
  | [], _ => -1
  | p :: l, i => cond (decide (cmpV (prj k p) v = 0)) i (idxP k v l (i + 1))

abbrev kE (k : Nat) (v : V) : List (Id × Option (Ent TT)) := [(.x 0, some (.var [.int .i64 k])), (.x 1, some (.var (rowV v)))]
theorem nd2 : (lX 2 ++ []).Nodup := by decide

theorem vc72 (h11 : ∀ a b, Gives O 11 [vD a, vD b] (bD (decide (cmpV a b = 0)))) (k : Nat) (hk : k = 0 ∨ k = 1) (p : V × V) (v : V) (R : RR) (hR : R (bD (decide (cmpV (prj k p) v = 0))) (kE k v)) :
    vcF (S := SS) O ir72 [twD p, .c (.ptr (.x 0) 0 0), .c (.ptr (.x 1) 0 0)] (kE k v) R := by
  have g := h11 (prj k p) v
  obtain ⟨⟨k1, n1, s1, f1⟩, ⟨k2, n2, s2, f2⟩⟩ := p
  obtain ⟨k3, n3, s3, f3⟩ := v
  rcases hk with rfl | rfl
  all_goals
    refine ⟨Nat.le_of_ble_eq_true rfl, rfl, ?_⟩
    conv => whnf
    refine ⟨by decide, ?_⟩
    conv => whnf
    refine ⟨[], ?_⟩
    conv => whnf
    refine g _ ?_
    conv => whnf
    exact ⟨[], nd2, hR⟩

theorem vc71 (k : Nat) (v : V) (l : WL) (h72 : ∀ p ∈ l, ∀ R : RR, R (bD (decide (cmpV (prj k p) v = 0))) (kE k v) → O 72 [twD p, .c (.ptr (.x 0) 0 0), .c (.ptr (.x 1) 0 0)] (kE k v) R)
    (R : RR) (hR : R (iD (idxP k v l 0)) (kE k v)) : vcF (S := SS) O ir71 [lD .two l, .c (.fn 72 [.x 0, .x 1])] (kE k v) R := by
  obtain ⟨k3, n3, s3, f3⟩ := v
  refine ⟨Nat.le_of_ble_eq_true rfl, rfl, ?_⟩
  conv => whnf
  intro (hlen : l.length ≤ 9223372036854775807)
  conv => whnf
  refine ⟨fun σ n => ∃ i : Nat, i ≤ l.length ∧ n = l.length - i ∧ idxP k (.mk k3 n3 s3 f3) l 0 = idxP k (.mk k3 n3 s3 f3) (l.drop i) i ∧
    σ.keep [0, 1, 7, 8] [.x 0, .x 1] = ⟨[(0, lD .two l), (1, .c (.fn 72 [.x 0, .x 1])), (7, iD l.length), (8, iD i)], kE k (.mk k3 n3 s3 f3)⟩, ⟨l.length, 0, by omega, by omega, rfl, rfl⟩, ?_⟩
  rintro σ n ⟨i, hi, rfl, hor, hσ⟩
  unfold vcC
  rw [hσ]
  rw [hor] at hR
  conv => whnf
  intro t (ht : t = decide ((i : Int) < l.length))
  cases t
  · have h0 : l.drop i = [] := List.drop_eq_nil_of_le (by have := of_decide_eq_false ht.symm; omega)
    rw [h0, idxP] at hR
    exact ⟨[], nd2, hR⟩
  have h : (i : Int) < l.length := of_decide_eq_true ht.symm
  have back : ∀ z : Int, z = ((i + 1 : Nat) : Int) → (⟨[(0, lD .two l), (1, .c (.fn 72 [.x 0, .x 1])), (7, iD l.length), (8, iD z)], kE k (.mk k3 n3 s3 f3)⟩ : St TT) =
    ⟨[(0, lD .two l), (1, .c (.fn 72 [.x 0, .x 1])), (7, iD l.length), (8, iD ((i + 1 : Nat) : Int))], kE k (.mk k3 n3 s3 f3)⟩ := by rintro _ rfl; rfl
  conv => whnf
  refine ⟨(⟨by omega, by omega⟩ : (0 : Int) ≤ i ∧ (i : Int) < l.length), fun (u : V × V) (hu : l[(i : Int).toNat]? = some u) => ?_⟩
  have hu : l[i]? = some u := by simpa using hu
  have g := h72 u (List.mem_of_getElem? hu)
  rw [drop_cons hu, idxP] at hor hR
  generalize decide (cmpV (prj k u) (.mk k3 n3 s3 f3) = 0) = q at g hor hR
  obtain ⟨⟨k1, n1, s1, f1⟩, ⟨k2, n2, s2, f2⟩⟩ := u
  conv => whnf
  refine ⟨[.x 0, .x 1], ?_⟩
  conv => whnf
  refine g _ ?_
  cases q
  · conv => whnf
    exact ⟨l.length - (i + 1), by omega, i + 1, by omega, rfl, hor, back _ (wrap_succ (show i < l.length by omega) hlen)⟩
  · conv => whnf
    exact ⟨[], nd2, hR⟩

theorem vc47 (k : Nat) (v : V) (l : WL) (h71 : ∀ R : RR, R (iD (idxP k v l 0)) (kE k v) → O 71 [lD .two l, .c (.fn 72 [.x 0, .x 1])] (kE k v) R)
    (R : RR) (hR : R (iD (idxP k v l 0)) []) : vcF (S := SS) O ir47 [lD .two l, iD k, vD v] [] R := by
  obtain ⟨k3, n3, s3, f3⟩ := v
  refine ⟨Nat.le_of_ble_eq_true rfl, rfl, ?_⟩
  conv => whnf
  refine ⟨[.s 4, .s 5], ?_⟩
  conv => whnf
  refine h71 _ ?_
  conv => whnf
  exact ⟨[], .nil, hR⟩

end Go.Clap

set_option linter.unusedVariables false
set_option linter.unusedSimpArgs false
namespace Go.Clap
variable {O : Oracle TT}

abbrev uD (z : Int) : D TT := .c (.int .u64 z)
def SortedK (ky : V × V → Int) (l : WL) : Prop := l.Pairwise fun p q => ky p ≤ ky q
abbrev rW (l : WL) : List (Id × Option (Ent TT)) := [(.x 0, some (.row false .two l))]
abbrev oW (n : Nat) : D TT := .c (.osl (.x 0) 0 n)

theorem swap_atW (p : WL) (y x : V × V) (t : WL) : ((p ++ [y] ++ x :: t).set (p.length + 1) y).set p.length x = p ++ x :: y :: t := by
  rw [List.append_assoc, List.set_append_right _ _ (by omega), Nat.add_sub_cancel_left]
  simp

theorem vc74 (h34 : ∀ a b, Gives O 34 [vD a, vD b] (iD (cmpV a b))) (p q : V × V) (R : RR) (hR : R (iD (cmpV p.1 q.1)) []) : vcF (S := SS) O ir74 [twD p, twD q] [] R := by
  have g := h34 p.1 q.1
  obtain ⟨⟨k1, n1, s1, f1⟩, ⟨k2, n2, s2, f2⟩⟩ := p
  obtain ⟨⟨k3, n3, s3, f3⟩, ⟨k4, n4, s4, f4⟩⟩ := q
  refine ⟨Nat.le_of_ble_eq_true rfl, rfl, ?_⟩
  conv => whnf
  refine ⟨by decide, ?_⟩
  conv => whnf
  refine ⟨by decide, ?_⟩
  conv => whnf
  refine ⟨[], ?_⟩
  conv => whnf
  refine g _ ?_
  conv => whnf
  exact ⟨[], .nil, hR⟩

set_option maxHeartbeats 4000000 in
theorem vc117 (ky : V × V → Int) (l : WL) (hl : l.length ≤ 1000) (hky : ∀ p ∈ l, ∀ q ∈ l, decide (cmpV p.1 q.1 < 0) = decide (ky p < ky q))
    (h74 : ∀ p q : V × V, Gives O 74 [twD p, twD q] (iD (cmpV p.1 q.1))) (R : RR)
    (hR : ∀ l' : WL, l'.Perm l → SortedK ky l' → R (.tup []) (rW l')) :
    vcF (S := SS) O ir117 [oW l.length, iD 0, iD l.length, .c (.fn 74 [])] (rW l) R := by
  refine ⟨Nat.le_of_ble_eq_true rfl, rfl, ?_⟩
  conv => whnf
  refine ⟨fun σ n => ∃ (i : Nat) (xs : WL), 1 ≤ i ∧ n = l.length + 1 - i ∧ xs.Perm l ∧ SortedK ky (xs.take i) ∧ σ.keep [0, 1, 2, 3, 8] [.x 0] =
    ⟨[(0, oW l.length), (1, iD 0), (2, iD l.length), (3, .c (.fn 74 [])), (8, iD i)], rW xs⟩,
    ⟨l.length, 1, l, by omega, by omega, List.Perm.refl _, ?_, rfl⟩, ?_⟩
  · cases l with
    | nil => exact .nil
    | cons a l => simp [SortedK]
  rintro σ n ⟨i, xs, hi, rfl, hp, hs, hσ⟩
  have hxl : xs.length = l.length := hp.length_eq
  unfold vcC
  rw [hσ]
  conv => whnf
  intro t (ht : t = decide ((i : Int) < l.length))
  cases t
  · have h : ¬ (i : Int) < l.length := of_decide_eq_false ht.symm
    rw [List.take_of_length_le (by omega)] at hs
    exact ⟨[], nd1, hR xs hp hs⟩
  have h : (i : Int) < l.length := of_decide_eq_true ht.symm
  have back : ∀ (xs : WL) (z : Int), z = ((i + 1 : Nat) : Int) →
    (⟨[(0, oW l.length), (1, iD 0), (2, iD l.length), (3, .c (.fn 74 [])), (8, iD z)], rW xs⟩ : St TT) =
    ⟨[(0, oW l.length), (1, iD 0), (2, iD l.length), (3, .c (.fn 74 [])), (8, iD ((i + 1 : Nat) : Int))], rW xs⟩ := by rintro _ _ rfl; rfl
  have wi : IntKind.wrap .i64 ((i : Int) + 1) = ((i + 1 : Nat) : Int) := wrapS _ (by omega) (by omega)
  conv => whnf
  refine ⟨fun σ n => ∃ (p : WL) (x : V × V) (s r : WL), n = p.length ∧ p.length + s.length = i ∧ (p ++ x :: (s ++ r)).Perm l ∧ SortedK ky (p ++ s) ∧ (∀ z ∈ s, ky x < ky z) ∧
    σ.keep [0, 1, 2, 3, 8, 9] [.x 0] = ⟨[(0, oW l.length), (1, iD 0), (2, iD l.length), (3, .c (.fn 74 [])), (8, iD i), (9, iD p.length)], rW (p ++ x :: (s ++ r))⟩, ?_, ?_⟩
  · obtain ⟨x, hx⟩ : ∃ x, xs[i]? = some x := ⟨xs[i], List.getElem?_eq_getElem (by omega)⟩
    have e : xs.take i ++ x :: xs.drop (i + 1) = xs := by
      obtain ⟨h1, h2⟩ := List.getElem?_eq_some_iff.1 hx
      rw [← h2, ← List.drop_eq_getElem_cons h1, List.take_append_drop]
    have hlen : (xs.take i).length = i := by simp; omega
    have key : ∀ (q : WL) (z : Nat), q = xs → z = i →
      (⟨[(0, oW l.length), (1, iD 0), (2, iD l.length), (3, .c (.fn 74 [])), (8, iD i), (9, iD i)], rW xs⟩ : St TT) =
      ⟨[(0, oW l.length), (1, iD 0), (2, iD l.length), (3, .c (.fn 74 [])), (8, iD i), (9, iD z)], rW q⟩ := by rintro _ _ rfl rfl; rfl
    exact ⟨i, xs.take i, x, [], xs.drop (i + 1), by omega, by simp; omega, by simpa [e] using hp, by simpa using hs, fun z hz => (by cases hz), key _ _ (by simpa using e) hlen⟩
  rintro σ n ⟨p, x, s, r, rfl, hps, hperm, hsort, hlt, hσ⟩
  have hlen : (p ++ x :: (s ++ r)).length = l.length := hperm.length_eq
  simp only [List.length_append, List.length_cons] at hlen
  unfold vcC
  rw [hσ]
  have over : SortedK ky (p ++ x :: s) → ∃ n', n' < l.length + 1 - i ∧ ∃ (i' : Nat) (xs' : WL), 1 ≤ i' ∧ n' = l.length + 1 - i' ∧ xs'.Perm l ∧ SortedK ky (xs'.take i') ∧ (i' = i + 1 ∧ xs' = p ++ x :: (s ++ r)) := by
    intro hso
    refine ⟨l.length + 1 - (i + 1), by omega, i + 1, _, by omega, rfl, hperm, ?_, rfl, rfl⟩
    have : (p ++ x :: (s ++ r)).take (i + 1) = p ++ x :: s := by
      rw [show p ++ x :: (s ++ r) = (p ++ x :: s) ++ r by simp, List.take_left' (by simp; omega)]
    rw [this]
    exact hso
  conv => whnf
  intro t (ht : t = decide ((p.length : Int) > 0))
  cases t
  · have hp0 : p = [] := by
      have := of_decide_eq_false ht.symm
      cases p with
      | nil => rfl
      | cons a p => simp at this
    subst hp0
    obtain ⟨n', q1, i', xs', q2, q3, q4, q5, rfl, rfl⟩ := over (List.Pairwise.cons (fun z hz => Int.le_of_lt (hlt z hz)) hsort)
    conv => whnf
    exact ⟨n', q1, i + 1, _, q2, q3, q4, q5, back _ _ wi⟩
  have hpos : 0 < p.length := by have := of_decide_eq_true ht.symm; omega
  obtain ⟨p', y, rfl⟩ : ∃ p' y, p = p' ++ [y] := by
    refine ⟨p.dropLast, p.getLast (by rintro rfl; simp at hpos), (List.dropLast_concat_getLast _).symm⟩
  have hpl : (p' ++ [y]).length = p'.length + 1 := by simp
  have wj : IntKind.wrap .i64 (((p' ++ [y]).length : Int) - 1) = (p'.length : Int) := by rw [wrapS _ (by omega) (by omega)]; omega
  have ej : 0 + ((p' ++ [y]).length : Int).toNat = p'.length + 1 := by omega
  have ej1 : 0 + (IntKind.wrap .i64 (((p' ++ [y]).length : Int) - 1)).toNat = p'.length := by rw [wj]; omega
  have gx : (p' ++ [y] ++ x :: (s ++ r))[p'.length + 1]? = some x := by
    rw [List.getElem?_append_right (by omega), hpl, Nat.sub_self]; rfl
  have gy : (p' ++ [y] ++ x :: (s ++ r))[p'.length]? = some y := by
    rw [List.append_assoc, List.getElem?_append_right (by omega), Nat.sub_self]; rfl
  have hfl : (p' ++ [y] ++ x :: (s ++ r)).length = l.length := hperm.length_eq
  have b1 : (0 : Int) ≤ ((p' ++ [y]).length : Int) ∧ ((p' ++ [y]).length : Int) < (l.length : Int) := ⟨by omega, by omega⟩
  have b2 : (0 : Int) ≤ IntKind.wrap .i64 (((p' ++ [y]).length : Int) - 1) ∧ IntKind.wrap .i64 (((p' ++ [y]).length : Int) - 1) < (l.length : Int) := by rw [wj]; omega
  have c1 : 0 + ((p' ++ [y]).length : Int).toNat < (p' ++ [y] ++ x :: (s ++ r)).length := by rw [hfl]; omega
  have c2 : 0 + (IntKind.wrap .i64 (((p' ++ [y]).length : Int) - 1)).toNat < (p' ++ [y] ++ x :: (s ++ r)).length := by rw [hfl, ej1]; omega
  have c2' : 0 + (IntKind.wrap .i64 (((p' ++ [y]).length : Int) - 1)).toNat < ((p' ++ [y] ++ x :: (s ++ r)).set (0 + ((p' ++ [y]).length : Int).toNat) y).length := by rw [List.length_set]; exact c2
  have fx : ∀ u, (p' ++ [y] ++ x :: (s ++ r))[0 + ((p' ++ [y]).length : Int).toNat]? = some u → u = x := fun u hu => by rw [ej, gx] at hu; exact (Option.some.inj hu).symm
  have fy : ∀ u, (p' ++ [y] ++ x :: (s ++ r))[0 + (IntKind.wrap .i64 (((p' ++ [y]).length : Int) - 1)).toNat]? = some u → u = y := fun u hu => by rw [ej1, gy] at hu; exact (Option.some.inj hu).symm
  have g := h74 x y
  have hk := hky x (hperm.mem_iff.1 (by simp)) y (hperm.mem_iff.1 (by simp))
  have over2 : ¬ ky x < ky y → ∃ n', n' < l.length + 1 - i ∧ ∃ (i' : Nat) (xs' : WL), 1 ≤ i' ∧ n' = l.length + 1 - i' ∧ xs'.Perm l ∧ SortedK ky (xs'.take i') ∧ (i' = i + 1 ∧ xs' = p' ++ [y] ++ x :: (s ++ r)) := by
    intro hnl
    have hle : ky y ≤ ky x := by omega
    apply over
    unfold SortedK at hsort ⊢
    rw [List.pairwise_append] at hsort ⊢
    refine ⟨hsort.1, .cons (fun z hz => Int.le_of_lt (hlt z hz)) hsort.2.1, fun a ha b hb => ?_⟩
    rcases List.mem_cons.1 hb with rfl | hb
    · rcases List.mem_append.1 ha with ha | ha
      · have := (List.pairwise_append.1 hsort.1).2.2 a ha y (by simp)
        omega
      · simp at ha; subst ha; exact hle
    · exact hsort.2.2 a ha b hb
  have fin1 : (p' ++ x :: ((y :: s) ++ r)).Perm l := by
    refine List.Perm.trans ?_ hperm
    rw [List.append_assoc]
    exact List.Perm.append_left p' (List.Perm.swap y x (s ++ r))
  have fin2 : SortedK ky (p' ++ (y :: s)) := by
    unfold SortedK at hsort ⊢
    simpa using hsort
  have fin3 : ky x < ky y → ∀ z ∈ y :: s, ky x < ky z := fun h z hz => by
    rcases List.mem_cons.1 hz with rfl | hz
    · exact h
    · exact hlt z hz
  have fin4 : ((p' ++ [y] ++ x :: (s ++ r)).set (0 + ((p' ++ [y]).length : Int).toNat) y).set (0 + (IntKind.wrap .i64 (((p' ++ [y]).length : Int) - 1)).toNat) x = p' ++ x :: ((y :: s) ++ r) := by
    rw [ej, ej1]
    exact swap_atW p' y x (s ++ r)
  have back2 : ∀ (xs xs' : WL) (z : Int) (m : Nat), xs = xs' → z = (m : Int) →
    (⟨[(0, oW l.length), (1, iD 0), (2, iD l.length), (3, .c (.fn 74 [])), (8, iD i), (9, iD z)], rW xs⟩ : St TT) =
    ⟨[(0, oW l.length), (1, iD 0), (2, iD l.length), (3, .c (.fn 74 [])), (8, iD i), (9, iD m)], rW xs'⟩ := by rintro _ _ _ _ rfl rfl; rfl
  clear over gx gy hsort hperm hlt hfl hσ
  obtain ⟨⟨k1, n1, s1, f1⟩, ⟨k2, n2, s2, f2⟩⟩ := x
  obtain ⟨⟨k3, n3, s3, f3⟩, ⟨k4, n4, s4, f4⟩⟩ := y
  conv => whnf
  refine ⟨b1, ?_⟩
  conv => whnf
  refine ⟨c1, fun (u : V × V) hu => ?_⟩
  obtain rfl := fx u hu
  conv => whnf
  refine ⟨b2, ?_⟩
  conv => whnf
  refine ⟨c2, fun (v : V × V) hv => ?_⟩
  obtain rfl := fy v hv
  conv => whnf
  refine ⟨[], ?_⟩
  conv => whnf
  refine g _ ?_
  conv => whnf
  intro t ht2
  have ht2 := Eq.trans ht2 hk
  cases t
  · obtain ⟨n', q1, i', xs', q2, q3, q4, q5, rfl, rfl⟩ := over2 (of_decide_eq_false ht2.symm)
    conv => whnf
    exact ⟨n', q1, i + 1, _, q2, q3, q4, q5, back _ _ wi⟩
  have hlt2 := fin3 (of_decide_eq_true ht2.symm)
  conv => whnf
  refine ⟨b2, ?_⟩
  conv => whnf
  refine ⟨c2, fun (w : V × V) hw => ?_⟩
  obtain rfl := fy w hw
  conv => whnf
  refine ⟨b1, ?_⟩
  conv => whnf
  refine ⟨c1, fun (w' : V × V) hw' => ?_⟩
  obtain rfl := fx w' hw'
  conv => whnf
  refine ⟨b1, ?_⟩
  conv => whnf
  refine ⟨c1, fun (z : V × V) _ => ?_⟩
  obtain ⟨⟨k5, n5, s5, f5⟩, ⟨k6, n6, s6, f6⟩⟩ := z
  refine ⟨(.mk k3 n3 s3 f3, .mk k4 n4 s4 f4), rfl, ?_⟩
  conv => whnf
  refine ⟨b2, ?_⟩
  conv => whnf
  refine ⟨c2', fun (z : V × V) _ => ?_⟩
  obtain ⟨⟨k7, n7, s7, f7⟩, ⟨k8, n8, s8, f8⟩⟩ := z
  refine ⟨(.mk k1 n1 s1 f1, .mk k2 n2 s2 f2), rfl, ?_⟩
  conv => whnf
  exact ⟨p'.length, by omega, p', _, _ :: s, r, rfl, by simp at hps ⊢; omega, fin1, fin2, hlt2, back2 _ _ _ _ fin4 wj⟩

theorem vc97 (l : WL) (hl : l.length ≤ 12) (m : Int) (Q : WL → Prop)
    (h117 : ∀ R : RR, (∀ l' : WL, Q l' → R (.tup []) (rW l')) → O 117 [oW l.length, iD 0, iD l.length, .c (.fn 74 [])] (rW l) R)
    (R : RR) (hR : ∀ l' : WL, Q l' → R (.tup []) (rW l')) :
    vcF (S := SS) O ir97 [oW l.length, iD 0, iD l.length, iD m, .c (.fn 74 [])] (rW l) R := by
  refine ⟨Nat.le_of_ble_eq_true rfl, rfl, ?_⟩
  conv => whnf
  refine ⟨fun σ n => n = 0 ∧ σ.keep [0, 1, 2, 3, 4, 10, 11] [.x 0] =
    ⟨[(0, oW l.length), (1, iD 0), (2, iD l.length), (3, iD m), (4, .c (.fn 74 [])), (10, bD true), (11, bD true)], rW l⟩, ⟨0, rfl, rfl⟩, ?_⟩
  rintro σ n ⟨rfl, hσ⟩
  have wl : IntKind.wrap .i64 ((l.length : Int) - 0) = (l.length : Int) := by rw [wrapS _ (by omega) (by omega)]; omega
  unfold vcC
  rw [hσ]
  conv => whnf
  intro t (ht : t = decide (IntKind.wrap .i64 ((l.length : Int) - 0) ≤ 12))
  have ht : t = true := by rw [ht, wl]; exact decide_eq_true (by omega)
  subst ht
  conv => whnf
  refine ⟨[.x 0], ?_⟩
  conv => whnf
  refine h117 _ (fun l' hq => ?_)
  exact ⟨[], nd1, hR l' hq⟩

theorem wrap64_nn (z : Int) : 0 ≤ IntKind.wrap .u64 z := by
  unfold IntKind.wrap
  simp [IntKind.bits, IntKind.signed]
  omega
theorem w8 (z : Int) : 0 ≤ IntKind.wrap .u8 z ∧ IntKind.wrap .u8 z < (256 : Nat) := by
  unfold IntKind.wrap
  simp [IntKind.bits, IntKind.signed]
  omega

set_option maxRecDepth 100000 in
theorem vc126 (z : Int) (hz : 0 ≤ z) (R : RR) (hR : ∀ m, R (iD m) []) : vcF (S := SS) O ir126 [uD z] [] R := by
  refine ⟨Nat.le_of_ble_eq_true rfl, rfl, ?_⟩
  conv => whnf
  repeat' (first
           | (intro t _; cases t <;> conv => whnf)
           | (refine ⟨by decide, ?_⟩
              conv => whnf)
           | (refine ⟨w8 _, fun b hb => ?_⟩
              conv => whnf)
           | exact ⟨[], .nil, hR _⟩)

theorem vc98 (z : Int) (h126 : ∀ R : RR, (∀ m, R (iD m) []) → O 126 [uD z] [] R) (R : RR) (hR : ∀ m, R (iD m) []) : vcF (S := SS) O ir98 [uD z] [] R := by
  refine ⟨Nat.le_of_ble_eq_true rfl, rfl, ?_⟩
  conv => whnf
  refine ⟨[], ?_⟩
  conv => whnf
  refine h126 _ (fun m => ?_)
  exact ⟨[], .nil, hR m⟩

theorem vc73 (l : WL) (hl : l.length ≤ 12) (h98 : ∀ R : RR, (∀ m, R (iD m) []) → O 98 [uD (IntKind.wrap .u64 l.length)] [] R) (Q : WL → Prop)
    (h97 : ∀ m, ∀ R : RR, (∀ l' : WL, Q l' → R (.tup []) (rW l')) → O 97 [oW l.length, iD 0, iD l.length, iD m, .c (.fn 74 [])] (rW l) R)
    (R : RR) (hR : ∀ l' : WL, Q l' → R (.tup []) (rW l')) :
    vcF (S := SS) O ir73 [oW l.length, .c (.fn 74 [])] (rW l) R := by
  refine ⟨Nat.le_of_ble_eq_true rfl, rfl, ?_⟩
  conv => whnf
  intro _
  conv => whnf
  refine ⟨[], ?_⟩
  conv => whnf
  refine h98 _ (fun m => ?_)
  conv => whnf
  refine ⟨[.x 0], ?_⟩
  conv => whnf
  refine h97 m _ (fun l' hq => ?_)
  exact ⟨[], nd1, hR l' hq⟩

end Go.Clap

set_option linter.unusedVariables false
set_option linter.unusedSimpArgs false
namespace Go.Clap
variable {O : Oracle TT}

theorem vc48 (l : WL) (hl : l.length ≤ 12) (Q : WL → Prop) (hq : ∀ l', Q l' → l'.length = l.length) (h57 : ∀ p ∈ l, Gives O 57 [vD p.1] (vD p.1) ∧ Gives O 57 [vD p.2] (vD p.2))
    (h73 : ∀ R : RR, (∀ l' : WL, Q l' → R (.tup []) (rW l')) → O 73 [oW l.length, .c (.fn 74 [])] (rW l) R)
    (R : RR) (hR : ∀ l' : WL, Q l' → R (lD .two l') []) : vcF (S := SS) O ir48 [lD .two l] [] R := by
  refine ⟨Nat.le_of_ble_eq_true rfl, rfl, ?_⟩
  conv => whnf
  intro _
  conv => whnf
  refine ⟨fun σ n => ∃ (i : Nat) (out : WL), i ≤ l.length ∧ n = l.length - i ∧ out = l.take i ∧ σ.keep [3, 6, 7, 8] [.sub (.s 3) 3] =
    ⟨[(3, .c (.osl (.sub (.s 3) 3) 0 out.length)), (6, lD .two l), (7, iD l.length), (8, iD i)], [(.sub (.s 3) 3, some (.row false .two out))]⟩, ⟨l.length, 0, [], by omega, by omega, rfl, rfl⟩, ?_⟩
  rintro σ n ⟨i, out, hi, rfl, hout, hσ⟩
  have hol : out.length = i := by rw [hout]; simp; omega
  unfold vcC
  rw [hσ]
  conv => whnf
  intro t (ht : t = decide ((i : Int) < l.length))
  cases t
  · have h : ¬ (i : Int) < l.length := of_decide_eq_false ht.symm
    rw [List.take_of_length_le (by omega)] at hout
    conv => whnf
    refine ⟨[.sub (.s 3) 3], ?_⟩
    conv => whnf
    subst hout
    refine h73 _ (fun l' hl' => ?_)
    have hll := hq l' hl'
    conv => whnf
    refine ⟨(by omega : 0 + out.length ≤ l'.length), ?_⟩
    conv => whnf
    have key : ∀ X : WL, X = l' → R (lD .two X) [] := by intro X hX; rw [hX]; exact hR l' hl'
    exact ⟨[], .nil, key _ (by rw [List.drop_zero, List.take_of_length_le (by omega)])⟩
  have h : (i : Int) < l.length := of_decide_eq_true ht.symm
  have back : ∀ (out : WL) (len : Nat) (z : Int), len = out.length → z = ((i + 1 : Nat) : Int) →
    (⟨[(3, .c (.osl (.sub (.s 3) 3) 0 len)), (6, lD .two l), (7, iD l.length), (8, iD z)], [(.sub (.s 3) 3, some (.row false .two out))]⟩ : St TT) =
    ⟨[(3, .c (.osl (.sub (.s 3) 3) 0 out.length)), (6, lD .two l), (7, iD l.length), (8, iD ((i + 1 : Nat) : Int))], [(.sub (.s 3) 3, some (.row false .two out))]⟩ := by rintro _ _ _ rfl rfl; rfl
  conv => whnf
  refine ⟨(⟨by omega, by omega⟩ : (0 : Int) ≤ i ∧ (i : Int) < l.length), fun (u : V × V) (hu : l[(i : Int).toNat]? = some u) => ?_⟩
  have hu : l[i]? = some u := by simpa using hu
  have g := h57 u (List.mem_of_getElem? hu)
  have fin : out ++ [u] = l.take (i + 1) := by rw [hout, List.take_add_one, hu]; rfl
  obtain ⟨⟨k1, n1, s1, f1⟩, ⟨k2, n2, s2, f2⟩⟩ := u
  obtain ⟨ga, gb⟩ := g
  conv => whnf
  refine ⟨by decide, ?_⟩
  conv => whnf
  refine ⟨by decide, ?_⟩
  conv => whnf
  refine ⟨[], ?_⟩
  conv => whnf
  refine ga _ ?_
  conv => whnf
  refine ⟨[], ?_⟩
  conv => whnf
  refine gb _ ?_
  conv => whnf
  refine ⟨rfl, rfl, ?_⟩
  conv => whnf
  refine ⟨rfl, ?_⟩
  conv => whnf
  refine ⟨(by omega : out.length + 1 ≤ 68719476736), ?_⟩
  conv => whnf
  exact ⟨l.length - (i + 1), by omega, i + 1, _, by omega, rfl, fin, back _ _ _ (by simp) (wrapS _ (by omega) (by omega))⟩

/-! ### One behind the other -/
def fndW (v : V) : WL → Option V
  | [] => none
  | p :: l => cond (decide (cmpV p.1 v = 0)) (some p.2) (fndW v l)
def compW (b : WL) : WL → WL
  | [] => []
  | p :: r => match fndW p.2 b with
    | none => compW b r
    | some w => (p.1, w) :: compW b r

theorem idx_fnd (v : V) : ∀ (l : WL) (i : Nat), (idxP 0 v l i = -1 ∧ fndW v l = none) ∨ ∃ (j : Nat) (p : V × V), idxP 0 v l i = ((i + j : Nat) : Int) ∧ l[j]? = some p ∧ fndW v l = some p.2
  | [], i => .inl ⟨rfl, rfl⟩
  | p :: l, i => by
    rw [idxP, fndW]
    by_cases h : cmpV p.1 v = 0
    · refine .inr ⟨0, p, ?_, rfl, ?_⟩
      · rw [show prj 0 p = p.1 from rfl, decide_eq_true h]; rfl
      · rw [decide_eq_true h]; rfl
    · rw [show prj 0 p = p.1 from rfl, decide_eq_false h]
      rcases idx_fnd v l (i + 1) with ⟨h1, h2⟩ | ⟨j, q, h1, h2, h3⟩
      · exact .inl ⟨h1, h2⟩
      · refine .inr ⟨j + 1, q, ?_, by simpa using h2, h3⟩
        show idxP 0 v l (((i : Nat) : Int) + 1) = _
        rw [show ((i : Nat) : Int) + 1 = ((i + 1 : Nat) : Int) by omega, h1]
        omega

theorem compW_len (b : WL) : ∀ a : WL, (compW b a).length ≤ a.length
  | [] => Nat.le_refl _
  | p :: r => by
    have := compW_len b r
    rw [compW]
    split <;> simp <;> omega
theorem compW_append (b : WL) : ∀ a c : WL, compW b (a ++ c) = compW b a ++ compW b c
  | [], c => rfl
  | p :: r, c => by
    have := compW_append b r c
    simp only [List.cons_append, compW]
    split <;> simp [this]

theorem vc28 (a b : WL) (ha : a.length ≤ 12) (h46 : ∀ k ∈ [a, b], Gives O 46 [lD .two k] (iD 0)) (h47 : ∀ v, Gives O 47 [lD .two b, iD 0, vD v] (iD (idxP 0 v b 0)))
    (hne : compW b a ≠ []) (Q : WL → Prop) (h48 : ∀ R : RR, (∀ l' : WL, Q l' → R (lD .two l') []) → O 48 [lD .two (compW b a)] [] R)
    (R : RR) (hR : ∀ l' : WL, Q l' → R (.tup [lD .two l', iD 0]) []) : vcF (S := SS) O ir28 [lD .two a, lD .two b] [] R := by
  refine ⟨Nat.le_of_ble_eq_true rfl, rfl, ?_⟩
  conv => whnf
  intro _
  conv => whnf
  refine ⟨fun σ n => ∃ k : Nat, k ≤ 2 ∧ n = 2 - k ∧ σ.keep [0, 1, 15, 16, 17] [] = ⟨[(0, lD .two a), (1, lD .two b), (15, lD .vpairs [a, b]), (16, iD 2), (17, iD k)], []⟩, ⟨2, 0, by omega, by omega, rfl⟩, ?_⟩
  rintro σ n ⟨k, hk, rfl, hσ⟩
  unfold vcC
  rw [hσ]
  have h3 : k = 0 ∨ k = 1 ∨ k = 2 := by omega
  rcases h3 with rfl | rfl | rfl
  rotate_left 2
  · conv => whnf
    intro t ht
    obtain rfl : t = false := ht
    conv => whnf
    intro _
    conv => whnf
    refine ⟨fun σ n => ∃ (i : Nat) (out : WL), i ≤ a.length ∧ n = a.length - i ∧ out = compW b (a.take i) ∧ σ.keep [1, 9, 27, 28, 29] [.sub (.s 9) 9] =
      ⟨[(1, lD .two b), (9, .c (.osl (.sub (.s 9) 9) 0 out.length)), (27, lD .two a), (28, iD a.length), (29, iD i)], [(.sub (.s 9) 9, some (.row false .two out))]⟩, ⟨a.length, 0, [], by omega, by omega, rfl, rfl⟩, ?_⟩
    rintro σ n ⟨i, out, hi, rfl, hout, hσ⟩
    have hol : out.length ≤ i := by rw [hout]; have := compW_len b (a.take i); simp at this; omega
    unfold vcC
    rw [hσ]
    conv => whnf
    intro t (ht : t = decide ((i : Int) < a.length))
    cases t
    · have h : ¬ (i : Int) < a.length := of_decide_eq_false ht.symm
      rw [List.take_of_length_le (by omega)] at hout
      subst hout
      conv => whnf
      intro _
      conv => whnf
      intro t (ht : t = (((compW b a).length : Int) == 0))
      have ht : t = false := by
        rw [ht]
        exact beq_eq_false_iff_ne.mpr (fun h => hne (List.length_eq_zero_iff.1 (by omega)))
      subst ht
      conv => whnf
      refine ⟨Nat.le_of_eq (Nat.zero_add _), ?_⟩
      conv => whnf
      have h48' : ∀ X : WL, X = compW b a → ∀ R : RR, (∀ l' : WL, Q l' → R (lD .two l') []) → O 48 [lD .two X] [] R := by rintro _ rfl; exact h48
      refine ⟨[], ?_⟩
      conv => whnf
      refine h48' _ (by simp) _ (fun l' hl' => ?_)
      conv => whnf
      exact ⟨[], .nil, hR l' hl'⟩
    have h : (i : Int) < a.length := of_decide_eq_true ht.symm
    have back : ∀ (out : WL) (len : Nat) (z : Int), len = out.length → z = ((i + 1 : Nat) : Int) →
      (⟨[(1, lD .two b), (9, .c (.osl (.sub (.s 9) 9) 0 len)), (27, lD .two a), (28, iD a.length), (29, iD z)], [(.sub (.s 9) 9, some (.row false .two out))]⟩ : St TT) =
      ⟨[(1, lD .two b), (9, .c (.osl (.sub (.s 9) 9) 0 out.length)), (27, lD .two a), (28, iD a.length), (29, iD ((i + 1 : Nat) : Int))], [(.sub (.s 9) 9, some (.row false .two out))]⟩ := by rintro _ _ _ rfl rfl; rfl
    conv => whnf
    refine ⟨(⟨by omega, by omega⟩ : (0 : Int) ≤ i ∧ (i : Int) < a.length), fun (u : V × V) (hu : a[(i : Int).toNat]? = some u) => ?_⟩
    have hu : a[i]? = some u := by simpa using hu
    have g := h47 u.2
    have hif := idx_fnd u.2 b 0
    have fin0 : fndW u.2 b = none → out = compW b (a.take (i + 1)) := fun hn => by
      rw [hout, List.take_add_one, hu, compW_append]
      simp [compW, hn]
    have fin1 : ∀ w, fndW u.2 b = some w → out ++ [(u.1, w)] = compW b (a.take (i + 1)) := fun w hn => by
      rw [hout, List.take_add_one, hu, compW_append]
      simp [compW, hn]
    obtain ⟨⟨k1, n1, s1, f1⟩, ⟨k2, n2, s2, f2⟩⟩ := u
    conv => whnf
    refine ⟨by decide, ?_⟩
    conv => whnf
    refine ⟨[], ?_⟩
    conv => whnf
    refine g _ ?_
    conv => whnf
    rcases hif with ⟨h1, h2⟩ | ⟨j, q, h1, h2, h3⟩
    · intro t ht
      have ht : t = false := Eq.trans ht (decide_eq_false (by rw [show idxP 0 (.mk k2 n2 s2 f2) b 0 = -1 from h1]; omega))
      subst ht
      conv => whnf
      exact ⟨a.length - (i + 1), by omega, i + 1, out, by omega, rfl, fin0 h2, back _ _ _ rfl (wrapS _ (by omega) (by omega))⟩
    · intro t ht
      have hjl : j < b.length := (List.getElem?_eq_some_iff.1 h2).1
      have h1 : idxP 0 (.mk k2 n2 s2 f2) b 0 = (j : Int) := by
        have : idxP 0 (.mk k2 n2 s2 f2) b ((0 : Nat) : Int) = ((0 + j : Nat) : Int) := h1
        rw [Nat.zero_add] at this
        exact this
      have ht : t = true := Eq.trans ht (decide_eq_true (by rw [h1]; omega))
      subst ht
      have fin := fin1 q.2 h3
      have hq : ∀ u, b[(idxP 0 (.mk k2 n2 s2 f2) b 0).toNat]? = some u → u = q := fun u hu => by
        rw [h1, Int.toNat_natCast, h2] at hu
        exact (Option.some.inj hu).symm
      have hb : 0 ≤ idxP 0 (.mk k2 n2 s2 f2) b 0 ∧ idxP 0 (.mk k2 n2 s2 f2) b 0 < b.length := by rw [h1]; omega
      obtain ⟨⟨k3, n3, s3, f3⟩, ⟨k4, n4, s4, f4⟩⟩ := q
      conv => whnf
      refine ⟨by decide, ?_⟩
      conv => whnf
      refine ⟨hb, fun (z : V × V) hz => ?_⟩
      obtain rfl := hq z hz
      conv => whnf
      refine ⟨by decide, ?_⟩
      conv => whnf
      refine ⟨rfl, rfl, ?_⟩
      conv => whnf
      refine ⟨rfl, ?_⟩
      conv => whnf
      refine ⟨(by omega : out.length + 1 ≤ 68719476736), ?_⟩
      conv => whnf
      exact ⟨a.length - (i + 1), by omega, i + 1, _, by omega, rfl, fin, back _ _ _ (by simp) (wrapS _ (by omega) (by omega))⟩
  · conv => whnf
    intro t ht
    obtain rfl : t = true := ht
    conv => whnf
    refine ⟨(⟨by decide, by decide⟩ : (0 : Int) ≤ 0 ∧ (0 : Int) < 2), fun (z : WL) hz => ?_⟩
    obtain rfl : a = z := Option.some.inj hz
    conv => whnf
    refine ⟨[], ?_⟩
    conv => whnf
    refine h46 a (by simp) _ ?_
    conv => whnf
    intro t ht
    obtain rfl : t = false := ht
    conv => whnf
    exact ⟨2 - 1, by omega, 1, by omega, rfl, rfl⟩
  · conv => whnf
    intro t ht
    obtain rfl : t = true := ht
    conv => whnf
    refine ⟨(⟨by decide, by decide⟩ : (0 : Int) ≤ 1 ∧ (1 : Int) < 2), fun (z : WL) hz => ?_⟩
    obtain rfl : b = z := Option.some.inj hz
    conv => whnf
    refine ⟨[], ?_⟩
    conv => whnf
    refine h46 b (by simp) _ ?_
    conv => whnf
    intro t ht
    obtain rfl : t = false := ht
    conv => whnf
    exact ⟨2 - 2, by omega, 2, by omega, rfl, rfl⟩

theorem vc50 (p q : V × V) (h11 : Gives O 11 [vD p.1, vD q.1] (bD true)) (h11' : Gives O 11 [vD p.2, vD q.2] (bD true)) (R : RR) (hR : R (bD true) []) : vcF (S := SS) O ir50 [twD p, twD q] [] R := by
  obtain ⟨⟨k1, n1, s1, f1⟩, ⟨k2, n2, s2, f2⟩⟩ := p
  obtain ⟨⟨k3, n3, s3, f3⟩, ⟨k4, n4, s4, f4⟩⟩ := q
  refine ⟨Nat.le_of_ble_eq_true rfl, rfl, ?_⟩
  conv => whnf
  refine ⟨by decide, ?_⟩
  conv => whnf
  refine ⟨by decide, ?_⟩
  conv => whnf
  refine ⟨[], ?_⟩
  conv => whnf
  refine h11 _ ?_
  conv => whnf
  refine ⟨by decide, ?_⟩
  conv => whnf
  refine ⟨by decide, ?_⟩
  conv => whnf
  refine ⟨[], ?_⟩
  conv => whnf
  refine h11' _ ?_
  conv => whnf
  exact ⟨[], .nil, hR⟩

theorem vc49 (l : WL) (h50 : ∀ p ∈ l, Gives O 50 [twD p, twD p] (bD true)) (R : RR) (hR : R (bD true) []) : vcF (S := SS) O ir49 [lD .two l, lD .two l, .c (.fn 50 [])] [] R := by
  refine ⟨Nat.le_of_ble_eq_true rfl, rfl, ?_⟩
  conv => whnf
  intro (hlen : l.length ≤ 9223372036854775807)
  conv => whnf
  intro _
  conv => whnf
  intro t (ht : t = ((l.length : Int) != (l.length : Int)))
  have ht : t = false := by rw [ht]; exact bne_self_eq_false _
  subst ht
  conv => whnf
  intro _
  conv => whnf
  refine ⟨fun σ n => ∃ i : Nat, i ≤ l.length ∧ n = l.length - i ∧
    σ.keep [1, 2, 15, 16, 17] [] = ⟨[(1, lD .two l), (2, .c (.fn 50 [])), (15, lD .two l), (16, iD l.length), (17, iD i)], []⟩, ⟨l.length, 0, by omega, by omega, rfl⟩, ?_⟩
  rintro σ n ⟨i, hi, rfl, hσ⟩
  unfold vcC
  rw [hσ]
  conv => whnf
  intro t (ht : t = decide ((i : Int) < l.length))
  cases t
  · exact ⟨[], .nil, hR⟩
  have h : (i : Int) < l.length := of_decide_eq_true ht.symm
  have back : ∀ z : Int, z = ((i + 1 : Nat) : Int) → (⟨[(1, lD .two l), (2, .c (.fn 50 [])), (15, lD .two l), (16, iD l.length), (17, iD z)], []⟩ : St TT) =
    ⟨[(1, lD .two l), (2, .c (.fn 50 [])), (15, lD .two l), (16, iD l.length), (17, iD ((i + 1 : Nat) : Int))], []⟩ := by rintro _ rfl; rfl
  conv => whnf
  refine ⟨(⟨by omega, by omega⟩ : (0 : Int) ≤ i ∧ (i : Int) < l.length), fun (u : V × V) (hu : l[(i : Int).toNat]? = some u) => ?_⟩
  have hu : l[i]? = some u := by simpa using hu
  have g := h50 u (List.mem_of_getElem? hu)
  obtain ⟨⟨k1, n1, s1, f1⟩, ⟨k2, n2, s2, f2⟩⟩ := u
  conv => whnf
  refine ⟨(⟨by omega, by omega⟩ : (0 : Int) ≤ i ∧ (i : Int) < l.length), fun (u' : V × V) (hu' : l[(i : Int).toNat]? = some u') => ?_⟩
  have hu' : l[i]? = some u' := by simpa using hu'
  rw [hu] at hu'
  obtain rfl := Option.some.inj hu'
  conv => whnf
  refine ⟨[], ?_⟩
  conv => whnf
  refine g _ ?_
  conv => whnf
  exact ⟨l.length - (i + 1), by omega, i + 1, by omega, rfl, back _ (wrap_succ (show i < l.length by omega) hlen)⟩

theorem vc29 (l : WL) (h49 : Gives O 49 [lD .two l, lD .two l, .c (.fn 50 [])] (bD true)) (R : RR) (hR : R (bD true) []) : vcF (S := SS) O ir29 [lD .two l, lD .two l] [] R := by
  refine ⟨Nat.le_of_ble_eq_true rfl, rfl, ?_⟩
  conv => whnf
  refine ⟨[], ?_⟩
  conv => whnf
  refine h49 _ ?_
  conv => whnf
  exact ⟨[], .nil, hR⟩

end Go.Clap

set_option linter.unusedVariables false
set_option linter.unusedSimpArgs false
namespace Go.Clap
variable {O : Oracle TT}

def tabF (i : Nat) : LIS → WL
  | [] => []
  | x :: r => (numV i, numV x) :: tabF (i + 1) r
abbrev tabW (σ : LIS) : WL := tabF 0 σ
theorem tabF_snoc (x : Int) : ∀ (a : LIS) (i : Nat), tabF i (a ++ [x]) = tabF i a ++ [(numV ((i + a.length : Nat) : Int), numV x)]
  | [], i => rfl
  | y :: a, i => by
    simp only [List.cons_append, tabF, tabF_snoc x a (i + 1), List.length_cons]
    rw [show i + 1 + a.length = i + (a.length + 1) by omega]
theorem tabF_len : ∀ (a : LIS) (i : Nat), (tabF i a).length = a.length
  | [], i => rfl
  | y :: a, i => by simp [tabF, tabF_len a (i + 1)]
def rng (n : Nat) : LIS := (List.range n).map Int.ofNat
theorem rng_succ (n : Nat) : rng (n + 1) = rng n ++ [(n : Int)] := by simp [rng, List.range_succ]
theorem rng_len (n : Nat) : (rng n).length = n := by simp [rng]

theorem bel_bd (x : Int) (n : Nat) (h : 1 ≤ n) (h2 : n ≤ 1000) : ∃ k : Nat, k < n ∧ bel x n = k := by
  have h1 := Int.tmod_lt_of_pos x (show (0 : Int) < n by omega)
  have h2 : -(n : Int) < x.tmod n := by
    have := Int.lt_tmod_of_pos x (show (0 : Int) < n by omega)
    omega
  unfold bel
  split
  · refine ⟨(x.tmod n + n).toNat, by omega, ?_⟩
    rw [wrapS _ (by omega) (by omega)]; omega
  · exact ⟨(x.tmod n).toNat, by omega, by omega⟩
theorem nextD_bd (l : LIS) (n : Nat) (h : 1 ≤ n) (h2 : n ≤ 1000) : ∃ k : Nat, k < n ∧ (nextD l n).1 = k := by
  unfold nextD
  rw [decide_eq_false (by omega)]
  cases l with
  | nil => exact ⟨0, by omega, rfl⟩
  | cons x r => exact bel_bd x n h h2

abbrev Nx (O : Oracle TT) : Prop := ∀ (l : LIS) (n : Int) (R : RR), R (iD (nextD l n).1) [(.x 0, some (.var [.isl .int (nextD l n).2]))] → O 15 [.c (.ptr (.x 0) 0 0), iD n] [(.x 0, some (.var [.isl .int l]))] R
abbrev Dl (O : Oracle TT) : Prop := ∀ (xs : LIS) (i : Nat) (R : RR), i < xs.length → R (.c (.osl (.x 0) 0 (xs.length - 1))) [(.x 0, some (.row false .int (xs.take i ++ xs.drop (i + 1))))] →
  O 45 [.c (.osl (.x 0) 0 xs.length), iD i, iD ((i + 1 : Nat) : Int)] [(.x 0, some (.row false .int xs))] R

set_option maxHeartbeats 2000000 in
theorem vc27 (h15 : Nx O) (h44 : ∀ n, Gives O 44 [iD n] (vD (numV n))) (h45 : Dl O) (ds : LIS) (n : Nat) (hn : 1 ≤ n) (hn2 : n ≤ 12)
    (R : RR) (hR : ∀ σ : LIS, σ.Perm (rng n) → R (lD .two (tabW σ)) []) : vcF (S := SS) O ir27 [lD .int ds, iD n] [] R := by
  refine ⟨Nat.le_of_ble_eq_true rfl, rfl, ?_⟩
  conv => whnf
  refine ⟨fun σ m => ∃ (i : Nat) (xs : LIS), i ≤ n ∧ m = n - i ∧ xs = rng i ∧ σ.keep [1, 5, 6, 14, 15] [.s 13, .sub (.s 6) 6] =
    ⟨[(1, iD n), (5, .c (.ptr (.s 13) 0 0)), (6, .c (.osl (.sub (.s 6) 6) 0 xs.length)), (14, iD n), (15, iD i)], [(.s 13, some (.var [.isl .int ds])), (.sub (.s 6) 6, some (.row false .int xs))]⟩,
    ⟨n, 0, [], by omega, by omega, rfl, rfl⟩, ?_⟩
  rintro σ m ⟨i, xs, hi, rfl, hxs, hσ⟩
  have hxl : xs.length = i := by rw [hxs, rng_len]
  unfold vcC
  rw [hσ]
  conv => whnf
  intro t (ht : t = decide ((i : Int) < n))
  cases t
  rotate_left
  · have h : (i : Int) < n := of_decide_eq_true ht.symm
    have back : ∀ (out : LIS) (len : Nat) (z : Int), len = out.length → z = ((i + 1 : Nat) : Int) →
      (⟨[(1, iD n), (5, .c (.ptr (.s 13) 0 0)), (6, .c (.osl (.sub (.s 6) 6) 0 len)), (14, iD n), (15, iD z)], [(.s 13, some (.var [.isl .int ds])), (.sub (.s 6) 6, some (.row false .int out))]⟩ : St TT) =
      ⟨[(1, iD n), (5, .c (.ptr (.s 13) 0 0)), (6, .c (.osl (.sub (.s 6) 6) 0 out.length)), (14, iD n), (15, iD ((i + 1 : Nat) : Int))], [(.s 13, some (.var [.isl .int ds])), (.sub (.s 6) 6, some (.row false .int out))]⟩ := by rintro _ _ _ rfl rfl; rfl
    conv => whnf
    refine ⟨rfl, rfl, ?_⟩
    conv => whnf
    refine ⟨rfl, ?_⟩
    conv => whnf
    refine ⟨(by omega : xs.length + 1 ≤ 68719476736), ?_⟩
    conv => whnf
    exact ⟨n - (i + 1), by omega, i + 1, xs ++ [(i : Int)], by omega, rfl, by rw [hxs, rng_succ], back _ _ _ (by simp) (wrapS _ (by omega) (by omega))⟩
  have hin : i = n := by have := of_decide_eq_false ht.symm; omega
  conv => whnf
  refine ⟨fun σ m => ∃ (i : Nat) (ds ord done : LIS), i ≤ n ∧ m = n - i ∧ done.length = i ∧ ord.length + i = n ∧ (done ++ ord).Perm (rng n) ∧ σ.keep [5, 6, 8, 23, 24] [.s 13, .sub (.s 6) 6, .sub (.s 8) 8] =
    ⟨[(5, .c (.ptr (.s 13) 0 0)), (6, .c (.osl (.sub (.s 6) 6) 0 ord.length)), (8, .c (.osl (.sub (.s 8) 8) 0 (tabW done).length)), (23, iD n), (24, iD i)],
      [(.s 13, some (.var [.isl .int ds])), (.sub (.s 6) 6, some (.row false .int ord)), (.sub (.s 8) 8, some (.row false .two (tabW done)))]⟩,
    ⟨n, 0, ds, xs, [], by omega, by omega, rfl, by omega, by rw [hxs, hin]; exact List.Perm.refl _, rfl⟩, ?_⟩
  clear hxs hσ hxl ht hi
  rintro σ m ⟨i, ds, ord, done, hi, rfl, hdl, hol, hperm, hσ⟩
  have htl : (tabW done).length = i := by rw [tabF_len, hdl]
  unfold vcC
  rw [hσ]
  conv => whnf
  intro t (ht : t = decide ((i : Int) < n))
  cases t
  · have h : ¬ (i : Int) < n := of_decide_eq_false ht.symm
    have h0 : ord = [] := List.length_eq_zero_iff.1 (by omega)
    rw [h0, List.append_nil] at hperm
    conv => whnf
    refine ⟨Nat.le_of_eq (Nat.zero_add _), ?_⟩
    conv => whnf
    have key : ∀ X : WL, X = tabW done → R (lD .two X) [] := by rintro _ rfl; exact hR _ hperm
    exact ⟨[], .nil, key _ (by simp)⟩
  have h : (i : Int) < n := of_decide_eq_true ht.symm
  obtain ⟨k, hk, hkn⟩ := nextD_bd ds ord.length (by omega) (by omega)
  have g15 := fun R => h15 ds ord.length R
  rw [hkn] at g15
  obtain ⟨y, hy⟩ : ∃ y, ord[k]? = some y := ⟨ord[k], List.getElem?_eq_getElem hk⟩
  have bk : (0 : Int) ≤ (k : Int) ∧ (k : Int) < (ord.length : Int) := ⟨by omega, by omega⟩
  have ck : 0 + (k : Int).toNat < ord.length := by omega
  have fk : ∀ u, ord[0 + (k : Int).toNat]? = some u → u = y := fun u hu => by
    rw [show 0 + (k : Int).toNat = k by omega, hy] at hu
    exact (Option.some.inj hu).symm
  have wk : IntKind.wrap .i64 ((k : Int) + 1) = ((k + 1 : Nat) : Int) := wrapS _ (by omega) (by omega)
  have g45 := fun R => h45 ord k R hk
  rw [← wk] at g45
  have hnew : ((done ++ [y]) ++ (ord.take k ++ ord.drop (k + 1))).Perm (rng n) := by
    refine List.Perm.trans ?_ hperm
    rw [List.append_assoc]
    refine List.Perm.append_left done ?_
    obtain ⟨h1, h2⟩ := List.getElem?_eq_some_iff.1 hy
    have e : ord = ord.take k ++ y :: ord.drop (k + 1) := by
      rw [← h2, ← List.drop_eq_getElem_cons h1, List.take_append_drop]
    conv => rhs; rw [e]
    show (y :: (ord.take k ++ ord.drop (k + 1))).Perm _
    exact List.perm_middle.symm
  have hlen2 : (ord.take k ++ ord.drop (k + 1)).length = ord.length - 1 := by simp; omega
  have htl1 : (tabW done).length + 1 = (tabW (done ++ [y])).length := by rw [tabF_len, tabF_len]; simp
  have hts := tabF_snoc y done 0
  rw [hdl, Nat.zero_add] at hts
  have back : ∀ (ds ord out : LIS) (tb : WL) (l1 l2 : Nat) (z : Int), tb = tabW out → l1 = ord.length → l2 = (tabW out).length → z = ((i + 1 : Nat) : Int) →
    (⟨[(5, .c (.ptr (.s 13) 0 0)), (6, .c (.osl (.sub (.s 6) 6) 0 l1)), (8, .c (.osl (.sub (.s 8) 8) 0 l2)), (23, iD n), (24, iD z)],
      [(.s 13, some (.var [.isl .int ds])), (.sub (.s 6) 6, some (.row false .int ord)), (.sub (.s 8) 8, some (.row false .two tb))]⟩ : St TT) =
    ⟨[(5, .c (.ptr (.s 13) 0 0)), (6, .c (.osl (.sub (.s 6) 6) 0 ord.length)), (8, .c (.osl (.sub (.s 8) 8) 0 (tabW out).length)), (23, iD n), (24, iD ((i + 1 : Nat) : Int))],
      [(.s 13, some (.var [.isl .int ds])), (.sub (.s 6) 6, some (.row false .int ord)), (.sub (.s 8) 8, some (.row false .two (tabW out)))]⟩ := by rintro _ _ _ _ _ _ _ rfl rfl rfl rfl; rfl
  conv => whnf
  intro _
  conv => whnf
  refine ⟨[.s 13], ?_⟩
  conv => whnf
  refine g15 _ ?_
  conv => whnf
  refine ⟨bk, ?_⟩
  conv => whnf
  refine ⟨ck, fun (u : Int) hu => ?_⟩
  obtain rfl := fk u hu
  conv => whnf
  refine ⟨[], ?_⟩
  conv => whnf
  refine h44 _ _ ?_
  conv => whnf
  refine ⟨[], ?_⟩
  conv => whnf
  refine h44 _ _ ?_
  conv => whnf
  refine ⟨rfl, rfl, ?_⟩
  conv => whnf
  refine ⟨rfl, ?_⟩
  conv => whnf
  refine ⟨(by omega : (tabW done).length + 1 ≤ 68719476736), ?_⟩
  conv => whnf
  refine ⟨[.sub (.s 6) 6], ?_⟩
  conv => whnf
  refine g45 _ ?_
  conv => whnf
  exact ⟨n - (i + 1), by omega, i + 1, _, _, done ++ [u], by omega, rfl, by simp; omega, by rw [hlen2]; omega, hnew, back _ _ _ _ _ _ _ hts.symm hlen2.symm htl1 (wrapS _ (by omega) (by omega))⟩

theorem vc7 (x y z : LIS) (d : Int) (n : Nat) (hd : bel d 12 = (n : Int) - 1) (hn : 1 ≤ n) (hn2 : n ≤ 12) (cmp : LIS → LIS → LIS) (hcl : ∀ a b, (cmp a b).length = a.length) (Pm : LIS → Prop) (hPl : ∀ a, Pm a → a.length = n)
    (hPc : ∀ a b, Pm a → Pm b → Pm (cmp a b)) (has : ∀ a b c, Pm a → Pm b → Pm c → cmp (cmp a b) c = cmp a (cmp b c))
    (h26 : Gives O 26 [iD d, iD 12] (iD (bel d 12)))
    (h27 : ∀ (l : LIS) (R : RR), (∀ σ, Pm σ → R (lD .two (tabW σ)) []) → O 27 [lD .int l, iD n] [] R)
    (h28 : ∀ a b, Pm a → Pm b → Gives O 28 [lD .two (tabW a), lD .two (tabW b)] (.tup [lD .two (tabW (cmp a b)), iD 0]))
    (h29 : ∀ a, Pm a → Gives O 29 [lD .two (tabW a), lD .two (tabW a)] (bD true))
    (R : RR) (hR : R (bD true) []) : vcF (S := SS) O ir7 [lD .int x, lD .int y, lD .int z, iD d] [] R := by
  have wn : IntKind.wrap .i64 (1 + bel d 12) = (n : Int) := by rw [hd, wrapS _ (by omega) (by omega)]; omega
  rw [← wn] at h27
  refine ⟨Nat.le_of_ble_eq_true rfl, rfl, ?_⟩
  conv => whnf
  refine ⟨[], ?_⟩
  conv => whnf
  refine h26 _ ?_
  conv => whnf
  refine ⟨[], ?_⟩
  conv => whnf
  refine h27 _ _ (fun a ha => ?_)
  conv => whnf
  refine ⟨[], ?_⟩
  conv => whnf
  refine h27 _ _ (fun b hb => ?_)
  conv => whnf
  refine ⟨[], ?_⟩
  conv => whnf
  refine h27 _ _ (fun c hc => ?_)
  have e1 := has a b c ha hb hc
  have g1 := h28 a b ha hb
  have g2 := h28 b c hb hc
  have g3 := h28 _ c (hPc a b ha hb) hc
  have g4 := h28 a _ ha (hPc b c hb hc)
  have hl := hPl _ (hPc a _ ha (hPc b c hb hc))
  have g5 := h29 _ (hPc a _ ha (hPc b c hb hc))
  rw [e1] at g3
  have hl2 : ((tabW (cmp a (cmp b c))).length : Int) = IntKind.wrap .i64 (1 + bel d 12) := by rw [tabF_len, hl, wn]
  generalize cmp a (cmp b c) = abc at *
  conv => whnf
  refine ⟨[], ?_⟩
  conv => whnf
  refine g1 _ ?_
  conv => whnf
  refine ⟨[], ?_⟩
  conv => whnf
  refine g2 _ ?_
  conv => whnf
  refine ⟨[], ?_⟩
  conv => whnf
  refine g3 _ ?_
  conv => whnf
  refine ⟨[], ?_⟩
  conv => whnf
  refine g4 _ ?_
  conv => whnf
  iterate 4
    intro t ht
    obtain rfl : t = true := ht
    conv => whnf
  intro _
  conv => whnf
  intro t ht
  have ht : t = true := Eq.trans ht (by rw [hl2]; exact beq_self_eq_true _)
  subst ht
  conv => whnf
  refine ⟨[], ?_⟩
  conv => whnf
  refine g5 _ ?_
  conv => whnf
  exact ⟨[], .nil, hR⟩

end Go.Clap
