/- Contracts: the makers of inputs, sizes. -/
import Derived.Test.YtnielhfaioakkaaGreatClapI1
set_option linter.unusedVariables false
set_option linter.unusedSimpArgs false
namespace Go.Clap
variable {O : Oracle TT}

def bel (x n : Int) : Int := if x.tmod n < 0 then IntKind.wrap .i64 (x.tmod n + n) else x.tmod n

theorem vc26 (x n : Int) (hn : n ≠ 0) (R : RR) (hR : R (iD (bel x n)) []) : vcF (S := SS) O ir26 [iD x, iD n] [] R := by
  refine ⟨by show 2 ≤ 14; omega, rfl, ?_⟩
  conv => whnf
  refine ⟨hn, ?_⟩
  conv => whnf
  intro t (ht : t = decide (x.tmod n < 0))
  cases t
  · have h : ¬ x.tmod n < 0 := of_decide_eq_false ht.symm
    rw [bel, if_neg h] at hR
    exact ⟨[], .nil, hR⟩
  · have h : x.tmod n < 0 := of_decide_eq_true ht.symm
    rw [bel, if_pos h] at hR
    exact ⟨[], .nil, hR⟩

def numV (n : Int) : V := .mk 2 n ⟨#[]⟩ []
def recV (a b : Int) : V := .mk 6 0 ⟨#[]⟩ [(⟨#[97]⟩, numV a), (⟨#[98]⟩, numV b)]

theorem vc44 (n : Int) (R : RR) (hR : R (vD (numV n)) []) : vcF (S := SS) O ir44 [iD n] [] R := by
  refine ⟨by show 1 ≤ 5; omega, rfl, ?_⟩
  conv => whnf
  refine ⟨[], .nil, ?_⟩
  exact hR

theorem vc30 (h44 : ∀ n, Gives O 44 [iD n] (vD (numV n))) (a b : Int) (R : RR) (hR : R (vD (recV a b)) []) : vcF (S := SS) O ir30 [iD a, iD b] [] R := by
  refine ⟨by show 2 ≤ 13; omega, rfl, ?_⟩
  conv => whnf
  refine ⟨[], ?_⟩
  conv => whnf
  refine h44 _ _ ?_
  conv => whnf
  refine ⟨[], ?_⟩
  conv => whnf
  refine h44 _ _ ?_
  conv => whnf
  exact ⟨[], .nil, hR⟩

def eltV (n : Int) : V := recV (IntKind.wrap .i64 ((bel n 9).tdiv 3)) ((bel n 9).tmod 3)
def listV (l : List Int) : V := .mk 8 0 ⟨#[]⟩ ((l.take 7).map fun n => (⟨#[]⟩, eltV n))

theorem vc8 (h26 : ∀ x n, n ≠ 0 → Gives O 26 [iD x, iD n] (iD (bel x n))) (h30 : ∀ a b, Gives O 30 [iD a, iD b] (vD (recV a b))) (l : List Int) (R : RR) (hR : R (vD (listV l)) []) :
    vcF (S := SS) O ir8 [lD .int l] [] R := by
  refine ⟨by show 1 ≤ 32; omega, rfl, ?_⟩
  conv => whnf
  intro (hlen : l.length ≤ 9223372036854775807)
  conv => whnf
  have hm : (if (7 : Int) < (l.length : Int) then (7 : Int) else (l.length : Int)) = ((min l.length 7 : Nat) : Int) := by split <;> omega
  refine ⟨(by rw [hm]; omega : (0 : Int) ≤ if (7 : Int) < (l.length : Int) then (7 : Int) else (l.length : Int)), ?_⟩
  conv => whnf
  refine ⟨(by rw [hm]; omega : 0 ≤ (if (7 : Int) < (l.length : Int) then (7 : Int) else (l.length : Int)).toNat ∧ (if (7 : Int) < (l.length : Int) then (7 : Int) else (l.length : Int)).toNat ≤ l.length), ?_⟩
  have ht : (l.drop 0).take ((if (7 : Int) < (l.length : Int) then (7 : Int) else (l.length : Int)).toNat - 0) = l.take 7 := by
    rw [hm]; simp [List.take_eq_take_iff]; omega
  conv => whnf
  intro _
  conv => whnf
  obtain ⟨q, hqe⟩ : ∃ q, q = (l.drop 0).take ((if (7 : Int) < (l.length : Int) then (7 : Int) else (l.length : Int)).toNat - 0) := ⟨_, rfl⟩
  have hq : l.take 7 = q := by rw [hqe, ht]
  have hql : q.length ≤ 7 := by rw [← hq]; simp; omega
  refine ⟨fun σ n => ∃ (i : Nat) (rs : List (ByteArray × V)), i ≤ q.length ∧ n = q.length - i ∧ rs = (q.take i).map (fun n => (⟨#[]⟩, eltV n)) ∧
    σ.keep [2, 3, 11, 12, 13] [.s 2, .s 3, .sub (.s 3) 3] =
      ⟨[(2, .c (.ptr (.s 2) 0 0)), (3, .c (.ptr (.s 3) 0 0)), (11, lD .int q), (12, iD q.length), (13, iD i)],
       [(.s 2, some (.var [.int .i64 0, .int .i64 0, .str ⟨#[]⟩, .isl .fld []])), (.s 3, some (.var [.int .i64 8, .int .i64 0, .str ⟨#[]⟩, .osl (.sub (.s 3) 3) 0 rs.length])), (.sub (.s 3) 3, some (.row false .fld rs))]⟩,
    ⟨q.length, 0, [], by omega, by omega, rfl, by rw [hqe]; rfl⟩, ?_⟩
  rintro σ n ⟨i, rs, hi, rfl, hrs, hσ⟩
  unfold vcC
  rw [hσ]
  conv => whnf
  intro t (ht : t = decide ((i : Int) < q.length))
  cases t
  rotate_left
  · have h : (i : Int) < q.length := of_decide_eq_true ht.symm
    conv => whnf
    refine ⟨(⟨by omega, by omega⟩ : (0 : Int) ≤ i ∧ (i : Int) < q.length), fun (u : Int) (hu : q[(i : Int).toNat]? = some u) => ?_⟩
    have hu : q[i]? = some u := by simpa using hu
    conv => whnf
    refine ⟨[], ?_⟩
    conv => whnf
    refine h26 _ 9 (by decide) _ ?_
    conv => whnf
    refine ⟨by decide, ?_⟩
    conv => whnf
    refine ⟨by decide, ?_⟩
    conv => whnf
    refine ⟨[], ?_⟩
    conv => whnf
    refine h30 _ _ _ ?_
    conv => whnf
    refine ⟨rfl, rfl, ?_⟩
    conv => whnf
    refine ⟨rfl, ?_⟩
    conv => whnf
    refine ⟨(by rw [hrs]; simp; omega : rs.length + 1 ≤ 68719476736), ?_⟩
    conv => whnf
    refine ⟨q.length - (i + 1), by omega, i + 1, rs ++ [(⟨#[]⟩, eltV u)], by omega, rfl, ?_, ?_⟩
    · rw [hrs, List.take_add_one, hu]; simp
    · rw [← wrap_succ (show i < q.length by omega) (show q.length ≤ 9223372036854775807 by omega)]
      have : (rs ++ [((⟨#[]⟩ : ByteArray), eltV u)]).length = rs.length + 1 := by simp
      rw [this]
      rfl
  · have h : ¬ (i : Int) < q.length := of_decide_eq_false ht.symm
    conv => whnf
    refine ⟨(by omega : 0 + rs.length ≤ rs.length), ?_⟩
    conv => whnf
    refine ⟨[], .nil, ?_⟩
    have h0 : (rs.drop 0).take rs.length = (l.take 7).map fun n => (⟨#[]⟩, eltV n) := by
      rw [List.drop_zero, List.take_length, hrs, List.take_of_length_le (by omega), hq]
    have key : ∀ X : List (ByteArray × V), X = (l.take 7).map (fun n => (⟨#[]⟩, eltV n)) → R (.agg [.int .i64 8, .int .i64 0, .str ⟨#[]⟩, .isl .fld X]) [] := by
      rintro X rfl; exact hR
    exact key _ h0

end Go.Clap
