/- Contracts: what an alignment keeps. -/
import Derived.Test.YtnielhfaioakkaaClapV16
set_option linter.unusedVariables false
set_option linter.unusedSimpArgs false
namespace Go.Clap
variable {O : Oracle TT}

def fromL : LIS → PL → LIS
  | fr, [] => fr
  | fr, p :: r => fromL (fr.set p.2.toNat p.1) r
def usedL : List Bool → PL → List Bool
  | us, [] => us
  | us, p :: r => usedL (us.set p.1.toNat true) r
def lostL : List Bool → Nat → LIS
  | [], _ => []
  | u :: us, i => cond (!u) ((i : Int) :: lostL us (i + 1)) (lostL us (i + 1))

theorem lostL_len : ∀ (us : List Bool) (i : Nat), (lostL us i).length ≤ us.length
  | [], i => by simp [lostL]
  | u :: us, i => by
    have := lostL_len us (i + 1)
    rw [lostL]
    cases u <;> simp <;> omega
theorem fromL_len : ∀ (l : PL) (fr : LIS), (fromL fr l).length = fr.length
  | [], fr => rfl
  | p :: l, fr => by rw [fromL, fromL_len l]; simp
theorem usedL_len : ∀ (l : PL) (us : List Bool), (usedL us l).length = us.length
  | [], us => rfl
  | p :: l, us => by rw [usedL, usedL_len l]; simp

set_option maxHeartbeats 2000000 in
theorem vc17 (l : PL) (n m : Nat) (hn : n ≤ 200) (hm : m ≤ 200) (h12 : Gives O 12 [lD .pair l, iD n, iD m] (iD 0)) (hin : ∀ p ∈ l, (0 ≤ p.1 ∧ p.1 < n) ∧ (0 ≤ p.2 ∧ p.2 < m)) (hll : l.length ≤ 1000)
    (R : RR) (hR : R (.tup [lD .int (fromL (List.replicate m (-1)) l), lD .int (lostL (usedL (List.replicate n false) l) 0), iD 0]) []) :
    vcF (S := SS) O ir17 [lD .pair l, iD n, iD m] [] R := by
  refine ⟨by show 3 ≤ 71; omega, rfl, ?_⟩
  conv => whnf
  refine ⟨[], ?_⟩
  conv => whnf
  refine h12 _ ?_
  conv => whnf
  intro t ht
  obtain rfl : t = false := ht
  conv => whnf
  refine ⟨(⟨by omega, by omega⟩ : (0 : Int) ≤ m ∧ (m : Int) ≤ (68719476736 : Nat)), ?_⟩
  conv => whnf
  intro _
  conv => whnf
  refine ⟨fun σ k => ∃ (i : Nat) (fr : LIS), i ≤ m ∧ k = m - i ∧ fr.length = m ∧ (∀ j, j < i → fr[j]? = some (-1)) ∧ σ.keep [0, 1, 10, 28, 29] [.s 26] =
    ⟨[(0, lD .pair l), (1, iD n), (10, .c (.osl (.s 26) 0 m)), (28, iD m), (29, iD i)], [(.s 26, some (.row false .int fr))]⟩,
    ⟨m, 0, List.replicate m 0, by omega, by omega, by simp, fun j hj => (by omega), rfl⟩, ?_⟩
  rintro σ k ⟨i, fr, hi, rfl, hfl, hfr, hσ⟩
  unfold vcC
  rw [hσ]
  conv => whnf
  intro t (ht : t = decide ((i : Int) < m))
  cases t
  rotate_left
  · have h : (i : Int) < m := of_decide_eq_true ht.symm
    have h0 : 0 + (i : Int).toNat = i := by simp
    have back : ∀ (e : Nat) (z : Int), e = i → z = ((i + 1 : Nat) : Int) → (⟨[(0, lD .pair l), (1, iD n), (10, .c (.osl (.s 26) 0 m)), (28, iD m), (29, iD z)], [(.s 26, some (.row false .int (fr.set e (-1))))]⟩ : St TT) =
      ⟨[(0, lD .pair l), (1, iD n), (10, .c (.osl (.s 26) 0 m)), (28, iD m), (29, iD ((i + 1 : Nat) : Int))], [(.s 26, some (.row false .int (fr.set i (-1))))]⟩ := by rintro _ _ rfl rfl; rfl
    conv => whnf
    refine ⟨(⟨by omega, by omega⟩ : (0 : Int) ≤ i ∧ (i : Int) < (m : Int)), ?_⟩
    conv => whnf
    refine ⟨(by omega : 0 + (i : Int).toNat < fr.length), fun (_ : Int) _ => ⟨-1, rfl, ?_⟩⟩
    conv => whnf
    refine ⟨m - (i + 1), by omega, i + 1, fr.set i (-1), by omega, rfl, by simpa using hfl, fun j hj => ?_, back _ _ h0 (wrapS _ (by omega) (by omega))⟩
    by_cases e : i = j
    · subst e
      rw [List.getElem?_set_self (by omega)]
    · rw [List.getElem?_set_ne e]
      exact hfr j (by omega)
  have hfr : fr = List.replicate m (-1) := by
    have := of_decide_eq_false ht.symm
    apply List.ext_getElem?
    intro j
    by_cases h : j < m
    · rw [hfr j (by omega), List.getElem?_replicate, if_pos h]
    · rw [List.getElem?_eq_none (by omega), List.getElem?_eq_none (by simp; omega)]
  subst hfr
  clear hσ ht
  conv => whnf
  refine ⟨(⟨by omega, by omega⟩ : (0 : Int) ≤ n ∧ (n : Int) ≤ (68719476736 : Nat)), ?_⟩
  conv => whnf
  intro (hlen : l.length ≤ 9223372036854775807)
  conv => whnf
  refine ⟨fun σ k => ∃ (i : Nat) (fr : LIS) (us : List Bool), i ≤ l.length ∧ k = l.length - i ∧ fr.length = m ∧ us.length = n ∧ fromL (List.replicate m (-1)) l = fromL fr (l.drop i) ∧
      usedL (List.replicate n false) l = usedL us (l.drop i) ∧ σ.keep [10, 12, 38, 39, 40] [.s 26, .s 37] =
    ⟨[(10, .c (.osl (.s 26) 0 m)), (12, .c (.osl (.s 37) 0 n)), (38, lD .pair l), (39, iD l.length), (40, iD i)], [(.s 26, some (.row false .int fr)), (.s 37, some (.row false .bool us))]⟩,
    ⟨l.length, 0, _, List.replicate n false, by omega, by omega, by simp, by simp, rfl, rfl, rfl⟩, ?_⟩
  rintro σ k ⟨i, fr, us, hi, rfl, hfl, hul, hf, hu, hσ⟩
  unfold vcC
  rw [hσ]
  conv => whnf
  intro t (ht : t = decide ((i : Int) < l.length))
  cases t
  rotate_left
  · have h : (i : Int) < l.length := of_decide_eq_true ht.symm
    conv => whnf
    refine ⟨(⟨by omega, by omega⟩ : (0 : Int) ≤ i ∧ (i : Int) < l.length), fun (p : Int × Int) (hp : l[(i : Int).toNat]? = some p) => ?_⟩
    have hp : l[i]? = some p := by simpa using hp
    have hpi := hin p (List.mem_of_getElem? hp)
    rw [drop_cons hp, fromL] at hf
    rw [drop_cons hp, usedL] at hu
    obtain ⟨a, b⟩ := p
    obtain ⟨⟨ha0, ha1⟩, hb0, hb1⟩ := hpi
    have ha0 : 0 ≤ a := ha0
    have ha1 : a < n := ha1
    have hb0 : 0 ≤ b := hb0
    have hb1 : b < m := hb1
    have za : 0 + a.toNat = a.toNat := by omega
    have zb : 0 + b.toNat = b.toNat := by omega
    have back : ∀ (e f : Nat) (z : Int), e = b.toNat → f = a.toNat → z = ((i + 1 : Nat) : Int) →
      (⟨[(10, .c (.osl (.s 26) 0 m)), (12, .c (.osl (.s 37) 0 n)), (38, lD .pair l), (39, iD l.length), (40, iD z)], [(.s 26, some (.row false .int (fr.set e a))), (.s 37, some (.row false .bool (us.set f true)))]⟩ : St TT) =
      ⟨[(10, .c (.osl (.s 26) 0 m)), (12, .c (.osl (.s 37) 0 n)), (38, lD .pair l), (39, iD l.length), (40, iD ((i + 1 : Nat) : Int))], [(.s 26, some (.row false .int (fr.set b.toNat a))), (.s 37, some (.row false .bool (us.set a.toNat true)))]⟩ := by
      rintro _ _ _ rfl rfl rfl; rfl
    conv => whnf
    refine ⟨(⟨hb0, hb1⟩ : 0 ≤ b ∧ b < (m : Int)), ?_⟩
    conv => whnf
    refine ⟨(by omega : 0 + b.toNat < fr.length), fun (_ : Int) _ => ⟨a, rfl, ?_⟩⟩
    conv => whnf
    refine ⟨(⟨ha0, ha1⟩ : 0 ≤ a ∧ a < (n : Int)), ?_⟩
    conv => whnf
    refine ⟨(by omega : 0 + a.toNat < us.length), fun (_ : Bool) _ => ⟨true, rfl, ?_⟩⟩
    conv => whnf
    exact ⟨l.length - (i + 1), by omega, i + 1, _, _, by omega, rfl, by simpa using hfl, by simpa using hul, hf, hu, back _ _ _ zb za (wrap_succ (show i < l.length by omega) hlen)⟩
  have h0 : l.drop i = [] := List.drop_eq_nil_of_le (by have := of_decide_eq_false ht.symm; omega)
  rw [h0, fromL] at hf
  rw [h0, usedL] at hu
  subst hf
  rw [hu] at hR
  clear hσ ht hu
  generalize fromL (List.replicate m (-1)) l = fr at hR hfl
  conv => whnf
  intro _
  conv => whnf
  refine ⟨fun σ k => ∃ (i : Nat) (out : LIS), i ≤ us.length ∧ k = us.length - i ∧ out.length ≤ i ∧ lostL us 0 = out ++ lostL (us.drop i) i ∧ σ.keep [10, 15, 55, 56, 57] [.s 26, .s 37, .sub (.s 15) 15] =
    ⟨[(10, .c (.osl (.s 26) 0 m)), (15, .c (.osl (.sub (.s 15) 15) 0 out.length)), (55, .c (.osl (.s 37) 0 n)), (56, iD n), (57, iD i)],
     [(.s 26, some (.row false .int fr)), (.s 37, some (.row false .bool us)), (.sub (.s 15) 15, some (.row false .int out))]⟩,
    ⟨us.length, 0, [], by omega, by omega, by simp, rfl, rfl⟩, ?_⟩
  rintro σ k ⟨i, out, hi, rfl, hol, hlo, hσ⟩
  unfold vcC
  rw [hσ]
  conv => whnf
  intro t (ht : t = decide ((i : Int) < n))
  cases t
  · have h0 : us.drop i = [] := List.drop_eq_nil_of_le (by have := of_decide_eq_false ht.symm; omega)
    rw [h0, lostL, List.append_nil] at hlo
    rw [hlo] at hR
    conv => whnf
    refine ⟨(by omega : 0 + m ≤ fr.length), ?_⟩
    conv => whnf
    refine ⟨(by omega : 0 + out.length ≤ out.length), ?_⟩
    conv => whnf
    have key : ∀ X Y : LIS, X = fr → Y = out → R (.tup [lD .int X, lD .int Y, iD 0]) [] := by rintro _ _ rfl rfl; exact hR
    exact ⟨[], .nil, key _ _ (by rw [List.drop_zero, List.take_of_length_le (by omega)]) (by simp)⟩
  have h : (i : Int) < n := of_decide_eq_true ht.symm
  have h0 : 0 + (i : Int).toNat = i := by simp
  have back : ∀ (out : LIS) (len : Nat) (z : Int), len = out.length → z = ((i + 1 : Nat) : Int) →
    (⟨[(10, .c (.osl (.s 26) 0 m)), (15, .c (.osl (.sub (.s 15) 15) 0 len)), (55, .c (.osl (.s 37) 0 n)), (56, iD n), (57, iD z)],
     [(.s 26, some (.row false .int fr)), (.s 37, some (.row false .bool us)), (.sub (.s 15) 15, some (.row false .int out))]⟩ : St TT) =
    ⟨[(10, .c (.osl (.s 26) 0 m)), (15, .c (.osl (.sub (.s 15) 15) 0 out.length)), (55, .c (.osl (.s 37) 0 n)), (56, iD n), (57, iD ((i + 1 : Nat) : Int))],
     [(.s 26, some (.row false .int fr)), (.s 37, some (.row false .bool us)), (.sub (.s 15) 15, some (.row false .int out))]⟩ := by
    rintro _ _ _ rfl rfl; rfl
  have wi : IntKind.wrap .i64 ((i : Int) + 1) = ((i + 1 : Nat) : Int) := wrapS _ (by omega) (by omega)
  obtain ⟨u, hu⟩ : ∃ u, us[i]? = some u := ⟨us[i], List.getElem?_eq_getElem (by omega)⟩
  rw [show us.drop i = u :: us.drop (i + 1) by obtain ⟨q1, q2⟩ := List.getElem?_eq_some_iff.1 hu; rw [List.drop_eq_getElem_cons q1, q2], lostL] at hlo
  conv => whnf
  refine ⟨(⟨by omega, by omega⟩ : (0 : Int) ≤ i ∧ (i : Int) < (n : Int)), ?_⟩
  conv => whnf
  refine ⟨(by omega : 0 + (i : Int).toNat < us.length), fun (u' : Bool) (hu' : us[0 + (i : Int).toNat]? = some u') => ?_⟩
  rw [h0, hu] at hu'
  obtain rfl := Option.some.inj hu'
  cases u
  · conv => whnf
    refine ⟨rfl, rfl, ?_⟩
    conv => whnf
    refine ⟨rfl, ?_⟩
    conv => whnf
    refine ⟨(by omega : out.length + 1 ≤ 68719476736), ?_⟩
    conv => whnf
    exact ⟨us.length - (i + 1), by omega, i + 1, out ++ [(i : Int)], by omega, rfl, by simp; omega, by rw [List.append_assoc]; exact hlo, back _ _ _ (by simp) wi⟩
  · conv => whnf
    exact ⟨us.length - (i + 1), by omega, i + 1, out, by omega, rfl, by omega, hlo, back _ _ _ rfl wi⟩

end Go.Clap
