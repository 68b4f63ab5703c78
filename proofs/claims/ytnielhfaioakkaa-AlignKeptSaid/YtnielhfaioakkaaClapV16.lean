/- Contracts: what is kept; sorting of short lists of pairs; alignments turned around. -/
import Derived.Test.YtnielhfaioakkaaClapV15
set_option linter.unusedVariables false
set_option linter.unusedSimpArgs false
namespace Go.Clap
variable {O : Oracle TT}

abbrev pD (p : Int × Int) : D TT := .agg [.int .i64 p.1, .int .i64 p.2]
theorem nd0 (i : Id) : (lX 0 ++ [i]).Nodup := by simp [lX]

theorem vc37 (h38 : ∀ a b, Gives O 38 [iD a, iD b] (iD (cmpI a b))) (p q : Int × Int) (R : RR) (hR : R (iD (cmpI p.2 q.2)) []) : vcF (S := SS) O ir37 [pD p, pD q] [] R := by
  obtain ⟨a, b⟩ := p
  obtain ⟨c, d⟩ := q
  refine ⟨by show 2 ≤ 10; omega, rfl, ?_⟩
  conv => whnf
  refine ⟨[], ?_⟩
  conv => whnf
  refine h38 _ _ _ ?_
  conv => whnf
  exact ⟨[], .nil, hR⟩

def SortedP (l : PL) : Prop := l.Pairwise fun p q => p.2 ≤ q.2
theorem cmpI_lt (a b : Int) : decide (cmpI a b < 0) = decide (a < b) := by
  unfold cmpI
  split
  · rename_i h; simp [h]
  · rename_i h; split <;> simp [h]

theorem swap_at (p : PL) (y x : Int × Int) (t : PL) : ((p ++ [y] ++ x :: t).set (p.length + 1) y).set p.length x = p ++ x :: y :: t := by
  rw [List.append_assoc, List.set_append_right _ _ (by omega), Nat.add_sub_cancel_left]
  simp

set_option maxHeartbeats 2000000 in
theorem vc80 (h37 : ∀ p q : Int × Int, Gives O 37 [pD p, pD q] (iD (cmpI p.2 q.2))) (l : PL) (hl : l.length ≤ 1000) (R : RR)
    (hR : ∀ l' : PL, l'.Perm l → SortedP l' → R (.tup []) [(.x 0, some (.row false .pair l'))]) :
    vcF (S := SS) O ir80 [.c (.osl (.x 0) 0 l.length), iD 0, iD l.length, .c (.fn 37 [])] [(.x 0, some (.row false .pair l))] R := by
  refine ⟨by show 4 ≤ 53; omega, rfl, ?_⟩
  conv => whnf
  refine ⟨fun σ n => ∃ (i : Nat) (xs : PL), 1 ≤ i ∧ n = l.length + 1 - i ∧ xs.Perm l ∧ SortedP (xs.take i) ∧ σ.keep [0, 1, 2, 3, 8] [.x 0] =
    ⟨[(0, .c (.osl (.x 0) 0 l.length)), (1, iD 0), (2, iD l.length), (3, .c (.fn 37 [])), (8, iD i)], [(.x 0, some (.row false .pair xs))]⟩,
    ⟨l.length, 1, l, by omega, by omega, List.Perm.refl _, ?_, rfl⟩, ?_⟩
  · cases l with
    | nil => exact .nil
    | cons a l => simp [SortedP]
  rintro σ n ⟨i, xs, hi, rfl, hp, hs, hσ⟩
  have hxl : xs.length = l.length := hp.length_eq
  unfold vcC
  rw [hσ]
  conv => whnf
  intro t (ht : t = decide ((i : Int) < l.length))
  cases t
  · have h : ¬ (i : Int) < l.length := of_decide_eq_false ht.symm
    rw [List.take_of_length_le (by omega)] at hs
    exact ⟨[], nd1, hR xs hp hs⟩
  have h : (i : Int) < l.length := of_decide_eq_true ht.symm
  have back : ∀ (xs : PL) (z : Int), z = ((i + 1 : Nat) : Int) →
    (⟨[(0, .c (.osl (.x 0) 0 l.length)), (1, iD 0), (2, iD l.length), (3, .c (.fn 37 [])), (8, iD z)], [(.x 0, some (.row false .pair xs))]⟩ : St TT) =
    ⟨[(0, .c (.osl (.x 0) 0 l.length)), (1, iD 0), (2, iD l.length), (3, .c (.fn 37 [])), (8, iD ((i + 1 : Nat) : Int))], [(.x 0, some (.row false .pair xs))]⟩ := by rintro _ _ rfl; rfl
  have wi : IntKind.wrap .i64 ((i : Int) + 1) = ((i + 1 : Nat) : Int) := wrapS _ (by omega) (by omega)
  conv => whnf
  refine ⟨fun σ n => ∃ (p : PL) (x : Int × Int) (s r : PL), n = p.length ∧ p.length + s.length = i ∧ (p ++ x :: (s ++ r)).Perm l ∧ SortedP (p ++ s) ∧ (∀ z ∈ s, x.2 < z.2) ∧
    σ.keep [0, 1, 2, 3, 8, 9] [.x 0] = ⟨[(0, .c (.osl (.x 0) 0 l.length)), (1, iD 0), (2, iD l.length), (3, .c (.fn 37 [])), (8, iD i), (9, iD p.length)], [(.x 0, some (.row false .pair (p ++ x :: (s ++ r))))]⟩, ?_, ?_⟩
  · obtain ⟨x, hx⟩ : ∃ x, xs[i]? = some x := ⟨xs[i], List.getElem?_eq_getElem (by omega)⟩
    have e : xs.take i ++ x :: xs.drop (i + 1) = xs := by
      obtain ⟨h1, h2⟩ := List.getElem?_eq_some_iff.1 hx
      rw [← h2, ← List.drop_eq_getElem_cons h1, List.take_append_drop]
    have hlen : (xs.take i).length = i := by simp; omega
    have key : ∀ (q : PL) (z : Nat), q = xs → z = i →
      (⟨[(0, .c (.osl (.x 0) 0 l.length)), (1, iD 0), (2, iD l.length), (3, .c (.fn 37 [])), (8, iD i), (9, iD i)], [(.x 0, some (.row false .pair xs))]⟩ : St TT) =
      ⟨[(0, .c (.osl (.x 0) 0 l.length)), (1, iD 0), (2, iD l.length), (3, .c (.fn 37 [])), (8, iD i), (9, iD z)], [(.x 0, some (.row false .pair q))]⟩ := by rintro _ _ rfl rfl; rfl
    exact ⟨i, xs.take i, x, [], xs.drop (i + 1), by omega, by simp; omega, by simpa [e] using hp, by simpa using hs, fun z hz => (by cases hz), key _ _ (by simpa using e) hlen⟩
  rintro σ n ⟨p, x, s, r, rfl, hps, hperm, hsort, hlt, hσ⟩
  have hlen : (p ++ x :: (s ++ r)).length = l.length := hperm.length_eq
  simp only [List.length_append, List.length_cons] at hlen
  unfold vcC
  rw [hσ]
  -- the round is over
  have over : SortedP (p ++ x :: s) → ∃ n', n' < l.length + 1 - i ∧ ∃ (i' : Nat) (xs' : PL), 1 ≤ i' ∧ n' = l.length + 1 - i' ∧ xs'.Perm l ∧ SortedP (xs'.take i') ∧ (i' = i + 1 ∧ xs' = p ++ x :: (s ++ r)) := by
    intro hso
    refine ⟨l.length + 1 - (i + 1), by omega, i + 1, _, by omega, rfl, hperm, ?_, rfl, rfl⟩
    have : (p ++ x :: (s ++ r)).take (i + 1) = p ++ x :: s := by
      rw [show p ++ x :: (s ++ r) = (p ++ x :: s) ++ r by simp, List.take_left' (by simp; omega)]
    rw [this]
    exact hso
  conv => whnf
  intro t (ht : t = decide ((p.length : Int) > 0))
  cases t
  · have hp0 : p = [] := by
      have := of_decide_eq_false ht.symm
      cases p with
      | nil => rfl
      | cons a p => simp at this
    subst hp0
    obtain ⟨n', q1, i', xs', q2, q3, q4, q5, rfl, rfl⟩ := over (List.Pairwise.cons (fun z hz => Int.le_of_lt (hlt z hz)) hsort)
    conv => whnf
    exact ⟨n', q1, i + 1, _, q2, q3, q4, q5, back _ _ wi⟩
  have hpos : 0 < p.length := by have := of_decide_eq_true ht.symm; omega
  obtain ⟨p', y, rfl⟩ : ∃ p' y, p = p' ++ [y] := by
    refine ⟨p.dropLast, p.getLast (by rintro rfl; simp at hpos), (List.dropLast_concat_getLast _).symm⟩
  have hpl : (p' ++ [y]).length = p'.length + 1 := by simp
  have wj : IntKind.wrap .i64 (((p' ++ [y]).length : Int) - 1) = (p'.length : Int) := by rw [wrapS _ (by omega) (by omega)]; omega
  have ej : 0 + ((p' ++ [y]).length : Int).toNat = p'.length + 1 := by omega
  have ej1 : 0 + (IntKind.wrap .i64 (((p' ++ [y]).length : Int) - 1)).toNat = p'.length := by rw [wj]; omega
  have gx : (p' ++ [y] ++ x :: (s ++ r))[p'.length + 1]? = some x := by
    rw [List.getElem?_append_right (by omega), hpl, Nat.sub_self]; rfl
  have gy : (p' ++ [y] ++ x :: (s ++ r))[p'.length]? = some y := by
    rw [List.append_assoc, List.getElem?_append_right (by omega), Nat.sub_self]; rfl
  have hfl : (p' ++ [y] ++ x :: (s ++ r)).length = l.length := hperm.length_eq
  have b1 : (0 : Int) ≤ ((p' ++ [y]).length : Int) ∧ ((p' ++ [y]).length : Int) < (l.length : Int) := ⟨by omega, by omega⟩
  have b2 : (0 : Int) ≤ IntKind.wrap .i64 (((p' ++ [y]).length : Int) - 1) ∧ IntKind.wrap .i64 (((p' ++ [y]).length : Int) - 1) < (l.length : Int) := by rw [wj]; omega
  have c1 : 0 + ((p' ++ [y]).length : Int).toNat < (p' ++ [y] ++ x :: (s ++ r)).length := by rw [hfl]; omega
  have c2 : 0 + (IntKind.wrap .i64 (((p' ++ [y]).length : Int) - 1)).toNat < (p' ++ [y] ++ x :: (s ++ r)).length := by rw [hfl, ej1]; omega
  have fx : ∀ u, (p' ++ [y] ++ x :: (s ++ r))[0 + ((p' ++ [y]).length : Int).toNat]? = some u → u = x := fun u hu => by rw [ej, gx] at hu; exact (Option.some.inj hu).symm
  have fy : ∀ u, (p' ++ [y] ++ x :: (s ++ r))[0 + (IntKind.wrap .i64 (((p' ++ [y]).length : Int) - 1)).toNat]? = some u → u = y := fun u hu => by rw [ej1, gy] at hu; exact (Option.some.inj hu).symm
  conv => whnf
  refine ⟨b1, ?_⟩
  conv => whnf
  refine ⟨c1, fun (u : Int × Int) hu => ?_⟩
  obtain rfl := fx u hu
  conv => whnf
  refine ⟨b2, ?_⟩
  conv => whnf
  refine ⟨c2, fun (v : Int × Int) hv => ?_⟩
  obtain rfl := fy v hv
  conv => whnf
  refine ⟨[], ?_⟩
  conv => whnf
  refine h37 u v _ ?_
  conv => whnf
  intro t (ht2 : t = decide (cmpI u.2 v.2 < 0))
  rw [cmpI_lt] at ht2
  cases t
  · have hle : v.2 ≤ u.2 := by have := of_decide_eq_false ht2.symm; omega
    have hso : SortedP (p' ++ [v] ++ u :: s) := by
      unfold SortedP at hsort ⊢
      rw [List.pairwise_append] at hsort ⊢
      refine ⟨hsort.1, .cons (fun z hz => Int.le_of_lt (hlt z hz)) hsort.2.1, fun a ha b hb => ?_⟩
      rcases List.mem_cons.1 hb with rfl | hb
      · rcases List.mem_append.1 ha with ha | ha
        · have := (List.pairwise_append.1 hsort.1).2.2 a ha v (by simp)
          omega
        · simp at ha; subst ha; exact hle
      · exact hsort.2.2 a ha b hb
    obtain ⟨n', q1, i', xs', q2, q3, q4, q5, rfl, rfl⟩ := over hso
    conv => whnf
    exact ⟨n', q1, i + 1, _, q2, q3, q4, q5, back _ _ wi⟩
  have hlt2 : u.2 < v.2 := of_decide_eq_true ht2.symm
  have back2 : ∀ (xs xs' : PL) (z : Int) (m : Nat), xs = xs' → z = (m : Int) →
    (⟨[(0, .c (.osl (.x 0) 0 l.length)), (1, iD 0), (2, iD l.length), (3, .c (.fn 37 [])), (8, iD i), (9, iD z)], [(.x 0, some (.row false .pair xs))]⟩ : St TT) =
    ⟨[(0, .c (.osl (.x 0) 0 l.length)), (1, iD 0), (2, iD l.length), (3, .c (.fn 37 [])), (8, iD i), (9, iD m)], [(.x 0, some (.row false .pair xs'))]⟩ := by rintro _ _ _ _ rfl rfl; rfl
  conv => whnf
  refine ⟨b2, ?_⟩
  conv => whnf
  refine ⟨c2, fun (w : Int × Int) hw => ?_⟩
  obtain rfl := fy w hw
  conv => whnf
  refine ⟨b1, ?_⟩
  conv => whnf
  refine ⟨c1, fun (w' : Int × Int) hw' => ?_⟩
  obtain rfl := fx w' hw'
  conv => whnf
  refine ⟨b1, ?_⟩
  conv => whnf
  refine ⟨c1, fun (_ : Int × Int) _ => ⟨w, rfl, ?_⟩⟩
  conv => whnf
  refine ⟨b2, ?_⟩
  conv => whnf
  refine ⟨(by rw [List.length_set]; exact c2), fun (_ : Int × Int) _ => ⟨w', rfl, ?_⟩⟩
  conv => whnf
  refine ⟨p'.length, by omega, p', w', w :: s, r, rfl, by simp at hps ⊢; omega, ?_, ?_, ?_, back2 _ _ _ _ ?_ wj⟩
  · refine List.Perm.trans ?_ hperm
    rw [List.append_assoc]
    exact List.Perm.append_left p' (List.Perm.swap w w' (s ++ r))
  · unfold SortedP at hsort ⊢
    simpa using hsort
  · intro z hz
    rcases List.mem_cons.1 hz with rfl | hz
    · exact hlt2
    · exact hlt z hz
  · rw [ej, ej1]
    exact swap_at p' w w' (s ++ r)

theorem vc58 (l : PL) (hl : l.length ≤ 19)
    (h80 : ∀ R : RR, (∀ l' : PL, l'.Perm l → SortedP l' → R (.tup []) [(.x 0, some (.row false .pair l'))]) → O 80 [.c (.osl (.x 0) 0 l.length), iD 0, iD l.length, .c (.fn 37 [])] [(.x 0, some (.row false .pair l))] R)
    (R : RR) (hR : ∀ l' : PL, l'.Perm l → SortedP l' → R (.tup []) [(.x 0, some (.row false .pair l'))]) :
    vcF (S := SS) O ir58 [.c (.osl (.x 0) 0 l.length), iD l.length, .c (.fn 37 [])] [(.x 0, some (.row false .pair l))] R := by
  refine ⟨by show 3 ≤ 63; omega, rfl, ?_⟩
  conv => whnf
  refine ⟨fun σ n => n = 0 ∧ σ.keep [0, 1, 2, 6, 7, 8] [.x 0] =
    ⟨[(0, .c (.osl (.x 0) 0 l.length)), (1, iD l.length), (2, .c (.fn 37 [])), (6, iD 20), (7, iD 0), (8, iD 20)], [(.x 0, some (.row false .pair l))]⟩, ⟨0, rfl, rfl⟩, ?_⟩
  rintro σ n ⟨rfl, hσ⟩
  unfold vcC
  rw [hσ]
  conv => whnf
  intro t (ht : t = decide ((20 : Int) ≤ l.length))
  have ht : t = false := by rw [ht]; exact decide_eq_false (by omega)
  subst ht
  conv => whnf
  refine ⟨[.x 0], ?_⟩
  conv => whnf
  refine h80 _ (fun l' hp hs => ?_)
  conv => whnf
  refine ⟨fun σ n => n = 0 ∧ σ.keep [0, 1, 2, 6] [.x 0] =
    ⟨[(0, .c (.osl (.x 0) 0 l.length)), (1, iD l.length), (2, .c (.fn 37 [])), (6, iD 20)], [(.x 0, some (.row false .pair l'))]⟩, ⟨0, rfl, rfl⟩, ?_⟩
  rintro σ n ⟨rfl, hσ⟩
  unfold vcC
  rw [hσ]
  conv => whnf
  intro t (ht : t = decide ((20 : Int) < l.length))
  have ht : t = false := by rw [ht]; exact decide_eq_false (by omega)
  subst ht
  exact ⟨[], nd1, hR l' hp hs⟩

theorem vc36 (l : PL)
    (h58 : ∀ R : RR, (∀ l' : PL, l'.Perm l → SortedP l' → R (.tup []) [(.x 0, some (.row false .pair l'))]) → O 58 [.c (.osl (.x 0) 0 l.length), iD l.length, .c (.fn 37 [])] [(.x 0, some (.row false .pair l))] R)
    (R : RR) (hR : ∀ l' : PL, l'.Perm l → SortedP l' → R (.tup []) [(.x 0, some (.row false .pair l'))]) :
    vcF (S := SS) O ir36 [.c (.osl (.x 0) 0 l.length), .c (.fn 37 [])] [(.x 0, some (.row false .pair l))] R := by
  refine ⟨by show 2 ≤ 9; omega, rfl, ?_⟩
  conv => whnf
  intro _
  conv => whnf
  refine ⟨[.x 0], ?_⟩
  conv => whnf
  refine h58 _ (fun l' hp hs => ?_)
  exact ⟨[], nd1, hR l' hp hs⟩

/-- A pair turned around. -/
def sw (p : Int × Int) : Int × Int := (p.2, p.1)

theorem vc18 (l : PL) (hl : l.length ≤ 19)
    (h36 : ∀ (l : PL), l.length ≤ 19 → ∀ R : RR, (∀ l' : PL, l'.Perm l → SortedP l' → R (.tup []) [(.x 0, some (.row false .pair l'))]) → O 36 [.c (.osl (.x 0) 0 l.length), .c (.fn 37 [])] [(.x 0, some (.row false .pair l))] R)
    (R : RR) (hR : ∀ l' : PL, l'.Perm (l.map sw) → SortedP l' → R (lD .pair l') []) : vcF (S := SS) O ir18 [lD .pair l] [] R := by
  refine ⟨by show 1 ≤ 24; omega, rfl, ?_⟩
  conv => whnf
  intro _
  conv => whnf
  refine ⟨fun σ n => ∃ (i : Nat) (out : PL), i ≤ l.length ∧ n = l.length - i ∧ out = (l.take i).map sw ∧ σ.keep [3, 6, 7, 8] [.sub (.s 3) 3] =
    ⟨[(3, .c (.osl (.sub (.s 3) 3) 0 out.length)), (6, lD .pair l), (7, iD l.length), (8, iD i)], [(.sub (.s 3) 3, some (.row false .pair out))]⟩, ⟨l.length, 0, [], by omega, by omega, rfl, rfl⟩, ?_⟩
  rintro σ n ⟨i, out, hi, rfl, hout, hσ⟩
  have hol : out.length = i := by rw [hout]; simp; omega
  unfold vcC
  rw [hσ]
  conv => whnf
  intro t (ht : t = decide ((i : Int) < l.length))
  cases t
  · have h : ¬ (i : Int) < l.length := of_decide_eq_false ht.symm
    rw [List.take_of_length_le (by omega)] at hout
    conv => whnf
    refine ⟨[.sub (.s 3) 3], ?_⟩
    conv => whnf
    refine h36 out (by omega) _ (fun l' hp hs => ?_)
    have hll : l'.length = out.length := hp.length_eq
    conv => whnf
    refine ⟨(by omega : 0 + out.length ≤ l'.length), ?_⟩
    conv => whnf
    have key : ∀ X : PL, X = l' → R (lD .pair X) [] := by intro X hX; rw [hX]; exact hR l' (hout ▸ hp) hs
    exact ⟨[], .nil, key _ (by rw [List.drop_zero, List.take_of_length_le (by omega)])⟩
  have h : (i : Int) < l.length := of_decide_eq_true ht.symm
  have back : ∀ (out : PL) (len : Nat) (z : Int), len = out.length → z = ((i + 1 : Nat) : Int) →
    (⟨[(3, .c (.osl (.sub (.s 3) 3) 0 len)), (6, lD .pair l), (7, iD l.length), (8, iD z)], [(.sub (.s 3) 3, some (.row false .pair out))]⟩ : St TT) =
    ⟨[(3, .c (.osl (.sub (.s 3) 3) 0 out.length)), (6, lD .pair l), (7, iD l.length), (8, iD ((i + 1 : Nat) : Int))], [(.sub (.s 3) 3, some (.row false .pair out))]⟩ := by rintro _ _ _ rfl rfl; rfl
  conv => whnf
  refine ⟨(⟨by omega, by omega⟩ : (0 : Int) ≤ i ∧ (i : Int) < l.length), fun (u : Int × Int) (hu : l[(i : Int).toNat]? = some u) => ?_⟩
  have hu : l[i]? = some u := by simpa using hu
  obtain ⟨a, b⟩ := u
  conv => whnf
  refine ⟨rfl, rfl, ?_⟩
  conv => whnf
  refine ⟨rfl, ?_⟩
  conv => whnf
  refine ⟨(by omega : out.length + 1 ≤ 68719476736), ?_⟩
  conv => whnf
  refine ⟨l.length - (i + 1), by omega, i + 1, out ++ [(b, a)], by omega, rfl, ?_, back _ _ _ (by simp) (wrapS _ (by omega) (by omega))⟩
  rw [hout, List.take_add_one, hu]
  simp [sw]

/-- The first pair that leads on. -/
def findP (q : Int × Int) : PL → Option (Int × Int)
  | [] => none
  | p :: r => cond (p.2 == q.1) (some (p.1, q.2)) (findP q r)
def compL (a : PL) : PL → PL
  | [] => []
  | q :: r => match findP q a with
    | some x => x :: compL a r
    | none => compL a r

theorem vc19 (a b : PL) (ha : a.length ≤ 1000) (hb : b.length ≤ 1000) (R : RR) (hR : R (lD .pair (compL a b)) []) : vcF (S := SS) O ir19 [lD .pair a, lD .pair b] [] R := by
  refine ⟨by show 2 ≤ 38; omega, rfl, ?_⟩
  conv => whnf
  intro _
  conv => whnf
  refine ⟨fun σ n => ∃ (i : Nat) (out : PL), i ≤ b.length ∧ n = b.length - i ∧ out.length ≤ i ∧ out ++ compL a (b.drop i) = compL a b ∧ σ.keep [0, 5, 10, 11, 12] [.sub (.s 5) 5] =
    ⟨[(0, lD .pair a), (5, .c (.osl (.sub (.s 5) 5) 0 out.length)), (10, lD .pair b), (11, iD b.length), (12, iD i)], [(.sub (.s 5) 5, some (.row false .pair out))]⟩, ⟨b.length, 0, [], by omega, by omega, by simp, rfl, rfl⟩, ?_⟩
  rintro σ n ⟨i, out, hi, rfl, hol, hor, hσ⟩
  unfold vcC
  rw [hσ]
  conv => whnf
  intro t (ht : t = decide ((i : Int) < b.length))
  cases t
  · have h0 : b.drop i = [] := List.drop_eq_nil_of_le (by have := of_decide_eq_false ht.symm; omega)
    rw [h0, compL, List.append_nil] at hor
    conv => whnf
    refine ⟨(by omega : 0 + out.length ≤ out.length), ?_⟩
    conv => whnf
    have key : ∀ X : PL, X = compL a b → R (lD .pair X) [] := by rintro _ rfl; exact hR
    exact ⟨[], .nil, key _ (by rw [List.drop_zero, List.take_length, hor])⟩
  have h : (i : Int) < b.length := of_decide_eq_true ht.symm
  have back : ∀ (out : PL) (len : Nat) (z : Int), len = out.length → z = ((i + 1 : Nat) : Int) →
    (⟨[(0, lD .pair a), (5, .c (.osl (.sub (.s 5) 5) 0 len)), (10, lD .pair b), (11, iD b.length), (12, iD z)], [(.sub (.s 5) 5, some (.row false .pair out))]⟩ : St TT) =
    ⟨[(0, lD .pair a), (5, .c (.osl (.sub (.s 5) 5) 0 out.length)), (10, lD .pair b), (11, iD b.length), (12, iD ((i + 1 : Nat) : Int))], [(.sub (.s 5) 5, some (.row false .pair out))]⟩ := by rintro _ _ _ rfl rfl; rfl
  have wi : IntKind.wrap .i64 ((i : Int) + 1) = ((i + 1 : Nat) : Int) := wrapS _ (by omega) (by omega)
  conv => whnf
  refine ⟨(⟨by omega, by omega⟩ : (0 : Int) ≤ i ∧ (i : Int) < b.length), fun (u : Int × Int) (hu : b[(i : Int).toNat]? = some u) => ?_⟩
  have hu : b[i]? = some u := by simpa using hu
  rw [drop_cons hu, compL] at hor
  obtain ⟨c, d⟩ := u
  conv => whnf
  intro _
  conv => whnf
  refine ⟨fun σ n => ∃ j : Nat, j ≤ a.length ∧ n = a.length - j ∧ findP (c, d) a = findP (c, d) (a.drop j) ∧ σ.keep [0, 5, 7, 10, 11, 12, 16, 17, 18] [.s 7, .sub (.s 5) 5] =
    ⟨[(0, lD .pair a), (5, .c (.osl (.sub (.s 5) 5) 0 out.length)), (7, .c (.ptr (.s 7) 0 0)), (10, lD .pair b), (11, iD b.length), (12, iD i), (16, lD .pair a), (17, iD a.length), (18, iD j)],
      [(.s 7, some (.var [.int .i64 c, .int .i64 d])), (.sub (.s 5) 5, some (.row false .pair out))]⟩, ⟨a.length, 0, by omega, by omega, rfl, rfl⟩, ?_⟩
  rintro σ n ⟨j, hj, rfl, hf, hσ⟩
  unfold vcC
  rw [hσ]
  conv => whnf
  intro t (ht : t = decide ((j : Int) < a.length))
  cases t
  · have h0 : a.drop j = [] := List.drop_eq_nil_of_le (by have := of_decide_eq_false ht.symm; omega)
    rw [h0, findP] at hf
    rw [hf] at hor
    conv => whnf
    exact ⟨b.length - (i + 1), by omega, i + 1, out, by omega, rfl, by omega, hor, back _ _ _ rfl wi⟩
  have h2 : (j : Int) < a.length := of_decide_eq_true ht.symm
  have back2 : ∀ z : Int, z = ((j + 1 : Nat) : Int) →
    (⟨[(0, lD .pair a), (5, .c (.osl (.sub (.s 5) 5) 0 out.length)), (7, .c (.ptr (.s 7) 0 0)), (10, lD .pair b), (11, iD b.length), (12, iD i), (16, lD .pair a), (17, iD a.length), (18, iD z)],
      [(.s 7, some (.var [.int .i64 c, .int .i64 d])), (.sub (.s 5) 5, some (.row false .pair out))]⟩ : St TT) =
    ⟨[(0, lD .pair a), (5, .c (.osl (.sub (.s 5) 5) 0 out.length)), (7, .c (.ptr (.s 7) 0 0)), (10, lD .pair b), (11, iD b.length), (12, iD i), (16, lD .pair a), (17, iD a.length), (18, iD ((j + 1 : Nat) : Int))],
      [(.s 7, some (.var [.int .i64 c, .int .i64 d])), (.sub (.s 5) 5, some (.row false .pair out))]⟩ := by rintro _ rfl; rfl
  conv => whnf
  refine ⟨(⟨by omega, by omega⟩ : (0 : Int) ≤ j ∧ (j : Int) < a.length), fun (v : Int × Int) (hv : a[(j : Int).toNat]? = some v) => ?_⟩
  have hv : a[j]? = some v := by simpa using hv
  rw [drop_cons hv, findP] at hf
  obtain ⟨e, f⟩ := v
  dsimp only at hf
  conv => whnf
  intro t ht2
  rw [← ht2] at hf
  cases t
  · exact ⟨a.length - (j + 1), by omega, j + 1, by omega, rfl, hf, back2 _ (wrapS _ (by omega) (by omega))⟩
  replace hf : findP (c, d) a = some (e, d) := hf
  rw [hf] at hor
  conv => whnf
  refine ⟨rfl, rfl, ?_⟩
  conv => whnf
  refine ⟨rfl, ?_⟩
  conv => whnf
  refine ⟨(by omega : out.length + 1 ≤ 68719476736), ?_⟩
  conv => whnf
  exact ⟨b.length - (i + 1), by omega, i + 1, out ++ [(e, d)], by omega, rfl, by simp; omega, by rw [List.append_assoc]; exact hor, back _ _ _ (by simp) wi⟩

theorem vc20 (a b : PL) (R : RR) (hR : R (bD (decide (a = b))) []) : vcF (S := SS) O ir20 [lD .pair a, lD .pair b] [] R := by
  refine ⟨by show 2 ≤ 26; omega, rfl, ?_⟩
  conv => whnf
  intro (hla : a.length ≤ 9223372036854775807)
  conv => whnf
  intro (hlb : b.length ≤ 9223372036854775807)
  conv => whnf
  intro t (ht : t = ((a.length : Int) != b.length))
  cases t
  rotate_left
  · have hne : a ≠ b := by
      rintro rfl
      simp at ht
    rw [decide_eq_false hne] at hR
    exact ⟨[], .nil, hR⟩
  have hl : a.length = b.length := by
    have := ht.symm
    simp at this
    omega
  conv => whnf
  intro _
  conv => whnf
  refine ⟨fun σ n => ∃ i : Nat, i ≤ a.length ∧ n = a.length - i ∧ (a = b ↔ a.drop i = b.drop i) ∧ σ.keep [0, 1, 12, 13] [] =
    ⟨[(0, lD .pair a), (1, lD .pair b), (12, iD a.length), (13, iD i)], []⟩, ⟨a.length, 0, by omega, by omega, Iff.rfl, rfl⟩, ?_⟩
  rintro σ n ⟨i, hi, rfl, hor, hσ⟩
  unfold vcC
  rw [hσ]
  conv => whnf
  intro t (ht : t = decide ((i : Int) < a.length))
  cases t
  · have h := of_decide_eq_false ht.symm
    have h0 : a.drop i = [] := List.drop_eq_nil_of_le (by omega)
    have h1 : b.drop i = [] := List.drop_eq_nil_of_le (by omega)
    rw [decide_eq_true (hor.2 (by rw [h0, h1]))] at hR
    exact ⟨[], .nil, hR⟩
  have h : (i : Int) < a.length := of_decide_eq_true ht.symm
  have back : ∀ z : Int, z = ((i + 1 : Nat) : Int) → (⟨[(0, lD .pair a), (1, lD .pair b), (12, iD a.length), (13, iD z)], []⟩ : St TT) =
    ⟨[(0, lD .pair a), (1, lD .pair b), (12, iD a.length), (13, iD ((i + 1 : Nat) : Int))], []⟩ := by rintro _ rfl; rfl
  conv => whnf
  refine ⟨(⟨by omega, by omega⟩ : (0 : Int) ≤ i ∧ (i : Int) < a.length), fun (u : Int × Int) (hu : a[(i : Int).toNat]? = some u) => ?_⟩
  have hu : a[i]? = some u := by simpa using hu
  obtain ⟨c, d⟩ := u
  conv => whnf
  refine ⟨(⟨by omega, by omega⟩ : (0 : Int) ≤ i ∧ (i : Int) < b.length), fun (v : Int × Int) (hv : b[(i : Int).toNat]? = some v) => ?_⟩
  have hv : b[i]? = some v := by simpa using hv
  obtain ⟨e, f⟩ := v
  rw [drop_cons hu, drop_cons hv] at hor
  conv => whnf
  intro t ht2
  have ht2 : t = !((c == e) && ((d == f) && true)) := ht2
  cases t
  · have hh : c = e ∧ d = f := by
      have := ht2.symm
      simpa using this
    refine ⟨a.length - (i + 1), by omega, i + 1, by omega, rfl, ?_, back _ (wrap_succ (show i < a.length by omega) hla)⟩
    rw [hor, hh.1, hh.2]
    simp
  · have hne : a ≠ b := by
      intro e'
      have h3 := hor.1 e'
      simp only [List.cons.injEq, Prod.mk.injEq] at h3
      rw [h3.1.1, h3.1.2] at ht2
      simp at ht2
    rw [decide_eq_false hne] at hR
    exact ⟨[], .nil, hR⟩

end Go.Clap
