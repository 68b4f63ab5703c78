/- Contracts: the sorting of short lists of integers; equal lists of integers. -/
import Derived.Test.YtnielhfaioakkaaGreatClapI7
import Derived.Test.YtnielhfaioakkaaGreatClapP5
import Derived.Test.YtnielhfaioakkaaGreatClapV26
set_option linter.unusedVariables false
set_option linter.unusedSimpArgs false
namespace Go.Clap
variable {O : Oracle TT}

def SortedI (l : LIS) : Prop := l.Pairwise fun p q => p ≤ q
abbrev rI (l : LIS) : List (Id × Option (Ent TT)) := [(.x 0, some (.row false .int l))]
theorem swap_atI (p : LIS) (y x : Int) (t : LIS) : ((p ++ [y] ++ x :: t).set (p.length + 1) y).set p.length x = p ++ x :: y :: t := by
  rw [List.append_assoc, List.set_append_right _ _ (by omega), Nat.add_sub_cancel_left]
  simp

theorem vc392 (h59 : ∀ n, Gives O 59 [iD n] (bD false)) (a b : Int) (R : RR) (hR : R (bD (decide (a < b))) []) : vcF (S := SS) O ir392 [iD a, iD b] [] R := by
  refine ⟨Nat.le_of_ble_eq_true rfl, rfl, ?_⟩
  conv => whnf
  refine ⟨[], ?_⟩
  conv => whnf
  refine h59 _ _ ?_
  conv => whnf
  intro t ht
  have ht : t = decide (a < b) := ht
  rw [← ht] at hR
  conv => whnf
  exact ⟨[], .nil, hR⟩

set_option maxHeartbeats 4000000 in
theorem vc386 (l : LIS) (hl : l.length ≤ 1000)
    (h392 : ∀ p q : Int, Gives O 392 [iD p, iD q] (bD (decide (p < q)))) (R : RR)
    (hR : ∀ l' : LIS, l'.Perm l → SortedI l' → R (.tup []) (rI l')) :
    vcF (S := SS) O ir386 [oW l.length, iD 0, iD l.length] (rI l) R := by
  refine ⟨Nat.le_of_ble_eq_true rfl, rfl, ?_⟩
  conv => whnf
  refine ⟨fun σ n => ∃ (i : Nat) (xs : LIS), 1 ≤ i ∧ n = l.length + 1 - i ∧ xs.Perm l ∧ SortedI (xs.take i) ∧ σ.keep [0, 1, 2, 6] [.x 0] =
    ⟨[(0, oW l.length), (1, iD 0), (2, iD l.length), (6, iD i)], rI xs⟩,
    ⟨l.length, 1, l, by omega, by omega, List.Perm.refl _, ?_, rfl⟩, ?_⟩
  · cases l with
    | nil => exact .nil
    | cons a l => simp [SortedI]
  rintro σ n ⟨i, xs, hi, rfl, hp, hs, hσ⟩
  have hxl : xs.length = l.length := hp.length_eq
  unfold vcC
  rw [hσ]
  conv => whnf
  intro t (ht : t = decide ((i : Int) < l.length))
  cases t
  · have h : ¬ (i : Int) < l.length := of_decide_eq_false ht.symm
    rw [List.take_of_length_le (by omega)] at hs
    exact ⟨[], nd1, hR xs hp hs⟩
  have h : (i : Int) < l.length := of_decide_eq_true ht.symm
  have back : ∀ (xs : LIS) (z : Int), z = ((i + 1 : Nat) : Int) →
    (⟨[(0, oW l.length), (1, iD 0), (2, iD l.length), (6, iD z)], rI xs⟩ : St TT) =
    ⟨[(0, oW l.length), (1, iD 0), (2, iD l.length), (6, iD ((i + 1 : Nat) : Int))], rI xs⟩ := by rintro _ _ rfl; rfl
  have wi : IntKind.wrap .i64 ((i : Int) + 1) = ((i + 1 : Nat) : Int) := wrapS _ (by omega) (by omega)
  conv => whnf
  refine ⟨fun σ n => ∃ (p : LIS) (x : Int) (s r : LIS), n = p.length ∧ p.length + s.length = i ∧ (p ++ x :: (s ++ r)).Perm l ∧ SortedI (p ++ s) ∧ (∀ z ∈ s, x < z) ∧
    σ.keep [0, 1, 2, 6, 7] [.x 0] = ⟨[(0, oW l.length), (1, iD 0), (2, iD l.length), (6, iD i), (7, iD p.length)], rI (p ++ x :: (s ++ r))⟩, ?_, ?_⟩
  · obtain ⟨x, hx⟩ : ∃ x, xs[i]? = some x := ⟨xs[i], List.getElem?_eq_getElem (by omega)⟩
    have e : xs.take i ++ x :: xs.drop (i + 1) = xs := by
      obtain ⟨h1, h2⟩ := List.getElem?_eq_some_iff.1 hx
      rw [← h2, ← List.drop_eq_getElem_cons h1, List.take_append_drop]
    have hlen : (xs.take i).length = i := by simp; omega
    have key : ∀ (q : LIS) (z : Nat), q = xs → z = i →
      (⟨[(0, oW l.length), (1, iD 0), (2, iD l.length), (6, iD i), (7, iD i)], rI xs⟩ : St TT) =
      ⟨[(0, oW l.length), (1, iD 0), (2, iD l.length), (6, iD i), (7, iD z)], rI q⟩ := by rintro _ _ rfl rfl; rfl
    exact ⟨i, xs.take i, x, [], xs.drop (i + 1), by omega, by simp; omega, by simpa [e] using hp, by simpa using hs, fun z hz => (by cases hz), key _ _ (by simpa using e) hlen⟩
  rintro σ n ⟨p, x, s, r, rfl, hps, hperm, hsort, hlt, hσ⟩
  have hlen : (p ++ x :: (s ++ r)).length = l.length := hperm.length_eq
  simp only [List.length_append, List.length_cons] at hlen
  unfold vcC
  rw [hσ]
  have over : SortedI (p ++ x :: s) → ∃ n', n' < l.length + 1 - i ∧ ∃ (i' : Nat) (xs' : LIS), 1 ≤ i' ∧ n' = l.length + 1 - i' ∧ xs'.Perm l ∧ SortedI (xs'.take i') ∧ (i' = i + 1 ∧ xs' = p ++ x :: (s ++ r)) := by
    intro hso
    refine ⟨l.length + 1 - (i + 1), by omega, i + 1, _, by omega, rfl, hperm, ?_, rfl, rfl⟩
    have : (p ++ x :: (s ++ r)).take (i + 1) = p ++ x :: s := by
      rw [show p ++ x :: (s ++ r) = (p ++ x :: s) ++ r by simp, List.take_left' (by simp; omega)]
    rw [this]
    exact hso
  conv => whnf
  intro t (ht : t = decide ((p.length : Int) > 0))
  cases t
  · have hp0 : p = [] := by
      have := of_decide_eq_false ht.symm
      cases p with
      | nil => rfl
      | cons a p => simp at this
    subst hp0
    obtain ⟨n', q1, i', xs', q2, q3, q4, q5, rfl, rfl⟩ := over (List.Pairwise.cons (fun z hz => Int.le_of_lt (hlt z hz)) hsort)
    conv => whnf
    exact ⟨n', q1, i + 1, _, q2, q3, q4, q5, back _ _ wi⟩
  have hpos : 0 < p.length := by have := of_decide_eq_true ht.symm; omega
  obtain ⟨p', y, rfl⟩ : ∃ p' y, p = p' ++ [y] := by
    refine ⟨p.dropLast, p.getLast (by rintro rfl; simp at hpos), (List.dropLast_concat_getLast _).symm⟩
  have hpl : (p' ++ [y]).length = p'.length + 1 := by simp
  have wj : IntKind.wrap .i64 (((p' ++ [y]).length : Int) - 1) = (p'.length : Int) := by rw [wrapS _ (by omega) (by omega)]; omega
  have ej : 0 + ((p' ++ [y]).length : Int).toNat = p'.length + 1 := by omega
  have ej1 : 0 + (IntKind.wrap .i64 (((p' ++ [y]).length : Int) - 1)).toNat = p'.length := by rw [wj]; omega
  have gx : (p' ++ [y] ++ x :: (s ++ r))[p'.length + 1]? = some x := by
    rw [List.getElem?_append_right (by omega), hpl, Nat.sub_self]; rfl
  have gy : (p' ++ [y] ++ x :: (s ++ r))[p'.length]? = some y := by
    rw [List.append_assoc, List.getElem?_append_right (by omega), Nat.sub_self]; rfl
  have hfl : (p' ++ [y] ++ x :: (s ++ r)).length = l.length := hperm.length_eq
  have b1 : (0 : Int) ≤ ((p' ++ [y]).length : Int) ∧ ((p' ++ [y]).length : Int) < (l.length : Int) := ⟨by omega, by omega⟩
  have b2 : (0 : Int) ≤ IntKind.wrap .i64 (((p' ++ [y]).length : Int) - 1) ∧ IntKind.wrap .i64 (((p' ++ [y]).length : Int) - 1) < (l.length : Int) := by rw [wj]; omega
  have c1 : 0 + ((p' ++ [y]).length : Int).toNat < (p' ++ [y] ++ x :: (s ++ r)).length := by rw [hfl]; omega
  have c2 : 0 + (IntKind.wrap .i64 (((p' ++ [y]).length : Int) - 1)).toNat < (p' ++ [y] ++ x :: (s ++ r)).length := by rw [hfl, ej1]; omega
  have c2' : 0 + (IntKind.wrap .i64 (((p' ++ [y]).length : Int) - 1)).toNat < ((p' ++ [y] ++ x :: (s ++ r)).set (0 + ((p' ++ [y]).length : Int).toNat) y).length := by rw [List.length_set]; exact c2
  have fx : ∀ u, (p' ++ [y] ++ x :: (s ++ r))[0 + ((p' ++ [y]).length : Int).toNat]? = some u → u = x := fun u hu => by rw [ej, gx] at hu; exact (Option.some.inj hu).symm
  have fy : ∀ u, (p' ++ [y] ++ x :: (s ++ r))[0 + (IntKind.wrap .i64 (((p' ++ [y]).length : Int) - 1)).toNat]? = some u → u = y := fun u hu => by rw [ej1, gy] at hu; exact (Option.some.inj hu).symm
  have g := h392 x y
  have over2 : ¬ x < y → ∃ n', n' < l.length + 1 - i ∧ ∃ (i' : Nat) (xs' : LIS), 1 ≤ i' ∧ n' = l.length + 1 - i' ∧ xs'.Perm l ∧ SortedI (xs'.take i') ∧ (i' = i + 1 ∧ xs' = p' ++ [y] ++ x :: (s ++ r)) := by
    intro hnl
    have hle : y ≤ x := by omega
    apply over
    unfold SortedI at hsort ⊢
    rw [List.pairwise_append] at hsort ⊢
    refine ⟨hsort.1, .cons (fun z hz => Int.le_of_lt (hlt z hz)) hsort.2.1, fun a ha b hb => ?_⟩
    rcases List.mem_cons.1 hb with rfl | hb
    · rcases List.mem_append.1 ha with ha | ha
      · have := (List.pairwise_append.1 hsort.1).2.2 a ha y (by simp)
        omega
      · simp at ha; subst ha; exact hle
    · exact hsort.2.2 a ha b hb
  have fin1 : (p' ++ x :: ((y :: s) ++ r)).Perm l := by
    refine List.Perm.trans ?_ hperm
    rw [List.append_assoc]
    exact List.Perm.append_left p' (List.Perm.swap y x (s ++ r))
  have fin2 : SortedI (p' ++ (y :: s)) := by
    unfold SortedI at hsort ⊢
    simpa using hsort
  have fin3 : x < y → ∀ z ∈ y :: s, x < z := fun h z hz => by
    rcases List.mem_cons.1 hz with rfl | hz
    · exact h
    · exact hlt z hz
  have fin4 : ((p' ++ [y] ++ x :: (s ++ r)).set (0 + ((p' ++ [y]).length : Int).toNat) y).set (0 + (IntKind.wrap .i64 (((p' ++ [y]).length : Int) - 1)).toNat) x = p' ++ x :: ((y :: s) ++ r) := by
    rw [ej, ej1]
    exact swap_atI p' y x (s ++ r)
  have back2 : ∀ (xs xs' : LIS) (z : Int) (m : Nat), xs = xs' → z = (m : Int) →
    (⟨[(0, oW l.length), (1, iD 0), (2, iD l.length), (6, iD i), (7, iD z)], rI xs⟩ : St TT) =
    ⟨[(0, oW l.length), (1, iD 0), (2, iD l.length), (6, iD i), (7, iD m)], rI xs'⟩ := by rintro _ _ _ _ rfl rfl; rfl
  clear over gx gy hsort hperm hlt hfl hσ
  conv => whnf
  refine ⟨b1, ?_⟩
  conv => whnf
  refine ⟨c1, fun (u : Int) hu => ?_⟩
  obtain rfl := fx u hu
  conv => whnf
  refine ⟨b2, ?_⟩
  conv => whnf
  refine ⟨c2, fun (v : Int) hv => ?_⟩
  obtain rfl := fy v hv
  conv => whnf
  refine ⟨[], ?_⟩
  conv => whnf
  refine g _ ?_
  conv => whnf
  generalize hd : decide (u < v) = t
  have ht2 : t = decide (u < v) := hd.symm
  clear hd
  cases t
  · obtain ⟨n', q1, i', xs', q2, q3, q4, q5, rfl, rfl⟩ := over2 (of_decide_eq_false ht2.symm)
    conv => whnf
    exact ⟨n', q1, i + 1, _, q2, q3, q4, q5, back _ _ wi⟩
  have hlt2 := fin3 (of_decide_eq_true ht2.symm)
  conv => whnf
  refine ⟨b2, ?_⟩
  conv => whnf
  refine ⟨c2, fun (w : Int) hw => ?_⟩
  obtain rfl := fy w hw
  conv => whnf
  refine ⟨b1, ?_⟩
  conv => whnf
  refine ⟨c1, fun (w' : Int) hw' => ?_⟩
  obtain rfl := fx w' hw'
  conv => whnf
  refine ⟨b1, ?_⟩
  conv => whnf
  refine ⟨c1, fun (_ : Int) _ => ⟨_, rfl, ?_⟩⟩
  conv => whnf
  refine ⟨b2, ?_⟩
  conv => whnf
  refine ⟨c2', fun (_ : Int) _ => ⟨_, rfl, ?_⟩⟩
  conv => whnf
  exact ⟨p'.length, by omega, p', _, _ :: s, r, rfl, by simp at hps ⊢; omega, fin1, fin2, hlt2, back2 _ _ _ _ fin4 wj⟩

theorem vc369 (l : LIS) (hl : l.length ≤ 12) (m : Int) (Q : LIS → Prop)
    (h386 : ∀ R : RR, (∀ l' : LIS, Q l' → R (.tup []) (rI l')) → O 386 [oW l.length, iD 0, iD l.length] (rI l) R)
    (R : RR) (hR : ∀ l' : LIS, Q l' → R (.tup []) (rI l')) :
    vcF (S := SS) O ir369 [oW l.length, iD 0, iD l.length, iD m] (rI l) R := by
  refine ⟨Nat.le_of_ble_eq_true rfl, rfl, ?_⟩
  conv => whnf
  refine ⟨fun σ n => n = 0 ∧ σ.keep [0, 1, 2, 3, 8, 9] [.x 0] =
    ⟨[(0, oW l.length), (1, iD 0), (2, iD l.length), (3, iD m), (8, bD true), (9, bD true)], rI l⟩, ⟨0, rfl, rfl⟩, ?_⟩
  rintro σ n ⟨rfl, hσ⟩
  have wl : IntKind.wrap .i64 ((l.length : Int) - 0) = (l.length : Int) := by rw [wrapS _ (by omega) (by omega)]; omega
  unfold vcC
  rw [hσ]
  conv => whnf
  intro t (ht : t = decide (IntKind.wrap .i64 ((l.length : Int) - 0) ≤ 12))
  have ht : t = true := by rw [ht, wl]; exact decide_eq_true (by omega)
  subst ht
  conv => whnf
  refine ⟨[.x 0], ?_⟩
  conv => whnf
  refine h386 _ (fun l' hq => ?_)
  exact ⟨[], nd1, hR l' hq⟩

theorem vc346 (l : LIS) (hl : l.length ≤ 12) (h98 : ∀ R : RR, (∀ m, R (iD m) []) → O 98 [uD (IntKind.wrap .u64 l.length)] [] R) (Q : LIS → Prop)
    (h369 : ∀ m, ∀ R : RR, (∀ l' : LIS, Q l' → R (.tup []) (rI l')) → O 369 [oW l.length, iD 0, iD l.length, iD m] (rI l) R)
    (R : RR) (hR : ∀ l' : LIS, Q l' → R (.tup []) (rI l')) :
    vcF (S := SS) O ir346 [oW l.length] (rI l) R := by
  refine ⟨Nat.le_of_ble_eq_true rfl, rfl, ?_⟩
  conv => whnf
  intro _
  conv => whnf
  refine ⟨[], ?_⟩
  conv => whnf
  refine h98 _ (fun m => ?_)
  conv => whnf
  refine ⟨[.x 0], ?_⟩
  conv => whnf
  refine h369 m _ (fun l' hq => ?_)
  exact ⟨[], nd1, hR l' hq⟩


theorem vc327 (l : LIS) (R : RR) (hR : R (bD true) []) : vcF (S := SS) O ir327 [lD .int l, lD .int l] [] R := by
  refine ⟨Nat.le_of_ble_eq_true rfl, rfl, ?_⟩
  conv => whnf
  intro (hlen : l.length ≤ 9223372036854775807)
  conv => whnf
  intro _
  conv => whnf
  intro t (ht : t = ((l.length : Int) != (l.length : Int)))
  have ht : t = false := by rw [ht]; exact bne_self_eq_false _
  subst ht
  conv => whnf
  intro _
  conv => whnf
  refine ⟨fun σ n => ∃ i : Nat, i ≤ l.length ∧ n = l.length - i ∧
    σ.keep [0, 1, 12, 13] [] = ⟨[(0, lD .int l), (1, lD .int l), (12, iD l.length), (13, iD i)], []⟩, ⟨l.length, 0, by omega, by omega, rfl⟩, ?_⟩
  rintro σ n ⟨i, hi, rfl, hσ⟩
  unfold vcC
  rw [hσ]
  conv => whnf
  intro t (ht : t = decide ((i : Int) < l.length))
  cases t
  · exact ⟨[], .nil, hR⟩
  have h : (i : Int) < l.length := of_decide_eq_true ht.symm
  have back : ∀ z : Int, z = ((i + 1 : Nat) : Int) → (⟨[(0, lD .int l), (1, lD .int l), (12, iD l.length), (13, iD z)], []⟩ : St TT) =
    ⟨[(0, lD .int l), (1, lD .int l), (12, iD l.length), (13, iD ((i + 1 : Nat) : Int))], []⟩ := by rintro _ rfl; rfl
  conv => whnf
  refine ⟨(⟨by omega, by omega⟩ : (0 : Int) ≤ i ∧ (i : Int) < l.length), fun (u : Int) (hu : l[(i : Int).toNat]? = some u) => ?_⟩
  conv => whnf
  refine ⟨(⟨by omega, by omega⟩ : (0 : Int) ≤ i ∧ (i : Int) < l.length), fun (u' : Int) (hu' : l[(i : Int).toNat]? = some u') => ?_⟩
  rw [hu] at hu'
  obtain rfl := Option.some.inj hu'
  conv => whnf
  intro t ht
  have ht : t = false := Eq.trans ht (bne_self_eq_false _)
  subst ht
  conv => whnf
  exact ⟨l.length - (i + 1), by omega, i + 1, by omega, rfl, back _ (wrap_succ (show i < l.length by omega) hlen)⟩

end Go.Clap

set_option linter.unusedVariables false
set_option linter.unusedSimpArgs false
namespace Go.Clap
variable {O : Oracle TT}

def ofN (l : List Nat) : LIS := l.map Int.ofNat
theorem ofN_len (l : List Nat) : (ofN l).length = l.length := by simp [ofN]

set_option maxHeartbeats 4000000 in
theorem vc326 (l : WL) (s : Nat → Nat) (hl : l.length ≤ 12) (hs : ∀ k, k < l.length → s k < l.length) (h46 : Gives O 46 [lD .two l] (iD 0))
    (hto : ∀ k p, l[k]? = some p → Gives O 47 [lD .two l, iD 0, vD p.2] (iD (s k : Nat))) (hfr : ∀ p ∈ l, ∃ j : Nat, Gives O 47 [lD .two l, iD 1, vD p.1] (iD j)) (Q : LIS → Prop)
    (h346 : ∀ R : RR, (∀ l' : LIS, Q l' → R (.tup []) (rI l')) → O 346 [oW (ofN (raws s l.length)).length] (rI (ofN (raws s l.length))) R) (hQl : ∀ l', Q l' → l'.length = (ofN (raws s l.length)).length)
    (R : RR) (hR : ∀ l' : LIS, Q l' → R (.tup [lD .int l', iD 0]) []) : vcF (S := SS) O ir326 [lD .two l] [] R := by
  refine ⟨Nat.le_of_ble_eq_true rfl, rfl, ?_⟩
  conv => whnf
  refine ⟨[], ?_⟩
  conv => whnf
  refine h46 _ ?_
  conv => whnf
  intro t ht
  obtain rfl : t = false := ht
  conv => whnf
  intro _
  conv => whnf
  refine ⟨fun σ n => ∃ i : Nat, i ≤ l.length ∧ n = l.length - i ∧ σ.keep [0, 17, 18, 19] [] = ⟨[(0, lD .two l), (17, lD .two l), (18, iD l.length), (19, iD i)], []⟩, ⟨l.length, 0, by omega, by omega, rfl⟩, ?_⟩
  rintro σ n ⟨i, hi, rfl, hσ⟩
  unfold vcC
  rw [hσ]
  conv => whnf
  intro t (ht : t = decide ((i : Int) < l.length))
  cases t
  rotate_left
  · have h : (i : Int) < l.length := of_decide_eq_true ht.symm
    have back : ∀ z : Int, z = ((i + 1 : Nat) : Int) → (⟨[(0, lD .two l), (17, lD .two l), (18, iD l.length), (19, iD z)], []⟩ : St TT) =
      ⟨[(0, lD .two l), (17, lD .two l), (18, iD l.length), (19, iD ((i + 1 : Nat) : Int))], []⟩ := by rintro _ rfl; rfl
    conv => whnf
    refine ⟨(⟨by omega, by omega⟩ : (0 : Int) ≤ i ∧ (i : Int) < l.length), fun (u : V × V) (hu : l[(i : Int).toNat]? = some u) => ?_⟩
    have hu : l[i]? = some u := by simpa using hu
    obtain ⟨j, g⟩ := hfr u (List.mem_of_getElem? hu)
    obtain ⟨⟨k1, n1, s1, f1⟩, ⟨k2, n2, s2, f2⟩⟩ := u
    conv => whnf
    refine ⟨by decide, ?_⟩
    conv => whnf
    refine ⟨[], ?_⟩
    conv => whnf
    refine g _ ?_
    conv => whnf
    intro t ht
    have ht : t = false := Eq.trans ht (decide_eq_false (by omega))
    subst ht
    conv => whnf
    exact ⟨l.length - (i + 1), by omega, i + 1, by omega, rfl, back _ (wrapS _ (by omega) (by omega))⟩
  clear hσ ht
  conv => whnf
  intro _
  conv => whnf
  refine ⟨⟨by omega, (by omega : (l.length : Int) ≤ 68719476736)⟩, ?_⟩
  conv => whnf
  intro _
  conv => whnf
  refine ⟨fun σ n => ∃ (i : Nat) (c : BL) (out : List Nat), i ≤ l.length ∧ n = l.length - i ∧ c.length = l.length ∧ outr s (l.length - i) i c out = raws s l.length ∧ out.length ≤ i ∧ σ.keep [0, 7, 8, 33, 34] [.s 31, .sub (.s 8) 8] =
    ⟨[(0, lD .two l), (7, .c (.osl (.s 31) 0 l.length)), (8, .c (.osl (.sub (.s 8) 8) 0 (ofN out).length)), (33, iD l.length), (34, iD i)], [(.s 31, some (.row false .bool c)), (.sub (.s 8) 8, some (.row false .int (ofN out)))]⟩,
    ⟨l.length, 0, List.replicate l.length false, [], by omega, by omega, by simp, rfl, by simp, rfl⟩, ?_⟩
  clear i hi
  rintro σ n ⟨i, c, out, hi, rfl, hcl, hor, hol, hσ⟩
  have hofl := ofN_len out
  unfold vcC
  rw [hσ]
  conv => whnf
  intro t (ht : t = decide ((i : Int) < l.length))
  cases t
  · have h : ¬ (i : Int) < l.length := of_decide_eq_false ht.symm
    rw [show l.length - i = 0 by omega, outr] at hor
    subst hor
    conv => whnf
    refine ⟨[.sub (.s 8) 9], ?_⟩
    conv => whnf
    refine h346 _ (fun l' hl' => ?_)
    have hll := hQl l' hl'
    conv => whnf
    refine ⟨(by omega : 0 + (ofN (raws s l.length)).length ≤ l'.length), ?_⟩
    conv => whnf
    have key : ∀ X : LIS, X = l' → R (.tup [lD .int X, iD 0]) [] := by rintro _ rfl; exact hR _ hl'
    exact ⟨[], .nil, key _ (by rw [List.drop_zero, List.take_of_length_le (by omega)])⟩
  have h : (i : Int) < l.length := of_decide_eq_true ht.symm
  rw [show l.length - i = (l.length - (i + 1)) + 1 by omega, outr] at hor
  conv => whnf
  refine ⟨fun σ n => ∃ (c' : BL) (k m : Nat), n = cf c' ∧ c'.length = l.length ∧ k < l.length ∧ m + cf c' = cf c ∧ wlk s (cf c') c' k m = wlk s (cf c) c i 0 ∧ σ.keep [0, 7, 8, 10, 11, 33, 34] [.s 31, .sub (.s 8) 9] =
    ⟨[(0, lD .two l), (7, .c (.osl (.s 31) 0 l.length)), (8, .c (.osl (.sub (.s 8) 9) 0 (ofN out).length)), (10, iD m), (11, iD k), (33, iD l.length), (34, iD i)], [(.s 31, some (.row false .bool c')), (.sub (.s 8) 9, some (.row false .int (ofN out)))]⟩,
    ⟨cf c, c, i, 0, rfl, hcl, by omega, by omega, rfl, rfl⟩, ?_⟩
  have hcf : cf c ≤ l.length := by rw [← hcl]; exact List.count_le_length
  generalize hW : wlk s (cf c) c i 0 = W at hor
  generalize cf c = C at hcf hW
  clear hσ hcl ht
  rintro σ n ⟨c', k, m, rfl, hcl, hk, hm, hw, hσ⟩
  unfold vcC
  rw [hσ]
  have bk : (0 : Int) ≤ (k : Int) ∧ (k : Int) < (l.length : Int) := ⟨by omega, by omega⟩
  have ck : 0 + (k : Int).toNat < c'.length := by omega
  have fk : ∀ u, c'[0 + (k : Int).toNat]? = some u → c'[k]? = some u := fun u hu => by
    rwa [show 0 + (k : Int).toNat = k by omega] at hu
  conv => whnf
  refine ⟨bk, ?_⟩
  conv => whnf
  refine ⟨ck, fun (u : Bool) hu => ?_⟩
  have hu := fk u hu
  cases u
  · -- a new place
    have hset := cf_set c' k hu
    obtain ⟨p, hp⟩ : ∃ p, l[k]? = some p := ⟨l[k], List.getElem?_eq_getElem hk⟩
    have g := hto k p hp
    have hpp : ∀ u, l[(k : Int).toNat]? = some u → u = p := fun u hu => by
      rw [Int.toNat_natCast, hp] at hu
      exact (Option.some.inj hu).symm
    have hw2 : wlk s (cf (c'.set k true)) (c'.set k true) (s k) (m + 1) = W := by
      rw [← hset, wlk, hu] at hw
      exact hw
    have hsk := hs k hk
    have back : ∀ (cs : BL) (z : Int), cs = c'.set k true → z = ((m + 1 : Nat) : Int) →
      (⟨[(0, lD .two l), (7, .c (.osl (.s 31) 0 l.length)), (8, .c (.osl (.sub (.s 8) 9) 0 (ofN out).length)), (10, iD z), (11, iD (s k : Nat)), (33, iD l.length), (34, iD i)], [(.s 31, some (.row false .bool cs)), (.sub (.s 8) 9, some (.row false .int (ofN out)))]⟩ : St TT) =
      ⟨[(0, lD .two l), (7, .c (.osl (.s 31) 0 l.length)), (8, .c (.osl (.sub (.s 8) 9) 0 (ofN out).length)), (10, iD ((m + 1 : Nat) : Int)), (11, iD (s k : Nat)), (33, iD l.length), (34, iD i)], [(.s 31, some (.row false .bool (c'.set k true))), (.sub (.s 8) 9, some (.row false .int (ofN out)))]⟩ := by rintro _ _ rfl rfl; rfl
    obtain ⟨⟨k1, n1, s1, f1⟩, ⟨k2, n2, s2, f2⟩⟩ := p
    conv => whnf
    refine ⟨bk, ?_⟩
    conv => whnf
    refine ⟨ck, fun (_ : Bool) _ => ⟨true, rfl, ?_⟩⟩
    conv => whnf
    refine ⟨bk, fun (q : V × V) hq => ?_⟩
    obtain rfl := hpp q hq
    conv => whnf
    refine ⟨by decide, ?_⟩
    conv => whnf
    refine ⟨[], ?_⟩
    conv => whnf
    refine g _ ?_
    conv => whnf
    exact ⟨cf (c'.set k true), by omega, c'.set k true, s k, m + 1, rfl, by simpa using hcl, hsk, by omega, hw2, back _ _ (by rw [show 0 + (k : Int).toNat = k by omega]) (wrapS _ (by omega) (by omega))⟩
  · -- the walk is over
    have hWe : W = (c', m) := by
      rw [← hw]
      cases cf c' with
      | zero => rfl
      | succ f => rw [wlk, hu]
    rw [hWe] at hor
    have back : ∀ (out : List Nat) (os : LIS) (len : Nat) (z : Int), os = ofN out → len = (ofN out).length → z = ((i + 1 : Nat) : Int) →
      (⟨[(0, lD .two l), (7, .c (.osl (.s 31) 0 l.length)), (8, .c (.osl (.sub (.s 8) 8) 0 len)), (33, iD l.length), (34, iD z)], [(.s 31, some (.row false .bool c')), (.sub (.s 8) 8, some (.row false .int os))]⟩ : St TT) =
      ⟨[(0, lD .two l), (7, .c (.osl (.s 31) 0 l.length)), (8, .c (.osl (.sub (.s 8) 8) 0 (ofN out).length)), (33, iD l.length), (34, iD ((i + 1 : Nat) : Int))], [(.s 31, some (.row false .bool c')), (.sub (.s 8) 8, some (.row false .int (ofN out)))]⟩ := by rintro _ _ _ _ rfl rfl rfl; rfl
    conv => whnf
    intro t (ht : t = decide ((m : Int) > 0))
    cases t
    · have h0 : ¬ (m : Int) > 0 := of_decide_eq_false ht.symm
      rw [show decide (0 < (c', m).2) = false from decide_eq_false (by show ¬ 0 < m; omega)] at hor
      conv => whnf
      exact ⟨l.length - (i + 1), by omega, i + 1, c', out, by omega, rfl, hcl, hor, by omega, back _ _ _ _ rfl rfl (wrapS _ (by omega) (by omega))⟩
    · have h0 : (m : Int) > 0 := of_decide_eq_true ht.symm
      rw [show decide (0 < (c', m).2) = true from decide_eq_true (by show 0 < m; omega)] at hor
      conv => whnf
      refine ⟨rfl, rfl, ?_⟩
      conv => whnf
      refine ⟨rfl, ?_⟩
      conv => whnf
      refine ⟨(by omega : (ofN out).length + 1 ≤ 68719476736), ?_⟩
      conv => whnf
      exact ⟨l.length - (i + 1), by omega, i + 1, c', out ++ [m], by omega, rfl, hcl, hor, by simp; omega, back _ _ _ _ (by simp [ofN]) (by simp [ofN]) (wrapS _ (by omega) (by omega))⟩

theorem vc306 (x : LIS) (d : Int) (n : Nat) (hd : bel d 12 = (n : Int) - 1) (hn : 1 ≤ n) (hn2 : n ≤ 12)
    (h26 : Gives O 26 [iD d, iD 12] (iD (bel d 12)))
    (h27 : ∀ (l : LIS) (R : RR), (∀ σ, Pm n σ → R (lD .two (tabW σ)) []) → O 27 [lD .int l, iD n] [] R)
    (h309 : ∀ σ, Pm n σ → Gives O 309 [lD .two (tabW σ)] (.tup [lD .two (tabW (inv n σ)), iD 0])) (cy : LIS → LIS)
    (hcs : ∀ σ, Pm n σ → cy (inv n σ) = cy σ) (hsum : ∀ σ, Pm n σ → (cy σ).sum = n ∧ (∀ a ∈ cy σ, 0 ≤ a) ∧ (cy σ).length ≤ 12)
    (h326 : ∀ σ, Pm n σ → Gives O 326 [lD .two (tabW σ)] (.tup [lD .int (cy σ), iD 0]))
    (h327 : ∀ l : LIS, Gives O 327 [lD .int l, lD .int l] (bD true))
    (R : RR) (hR : R (bD true) []) : vcF (S := SS) O ir306 [lD .int x, iD d] [] R := by
  have wn : IntKind.wrap .i64 (1 + bel d 12) = (n : Int) := by rw [hd, wrapS _ (by omega) (by omega)]; omega
  rw [← wn] at h27
  refine ⟨Nat.le_of_ble_eq_true rfl, rfl, ?_⟩
  conv => whnf
  refine ⟨[], ?_⟩
  conv => whnf
  refine h26 _ ?_
  conv => whnf
  refine ⟨[], ?_⟩
  conv => whnf
  refine h27 _ _ (fun σ hσ => ?_)
  have hc1 := h326 σ hσ
  have hc2 := h326 _ (inv_pm hσ)
  rw [hcs σ hσ] at hc2
  have hi1 := h309 σ hσ
  obtain ⟨q1, q2, q3⟩ := hsum σ hσ
  generalize inv n σ = τ at *
  generalize cy σ = cc at *
  have psum : ∀ (m : LIS), (∀ a ∈ m, 0 ≤ a) → 0 ≤ m.sum := by
    intro m
    induction m with
    | nil => intro _; simp
    | cons a m ih =>
      intro h
      have h1 := h a (List.mem_cons_self ..)
      have h2 := ih fun b hb => h b (List.mem_cons_of_mem _ hb)
      rw [List.sum_cons]
      omega
  conv => whnf
  refine ⟨[], ?_⟩
  conv => whnf
  refine hi1 _ ?_
  conv => whnf
  refine ⟨[], ?_⟩
  conv => whnf
  refine hc1 _ ?_
  conv => whnf
  refine ⟨[], ?_⟩
  conv => whnf
  refine hc2 _ ?_
  conv => whnf
  intro _
  conv => whnf
  refine ⟨fun st m => ∃ i : Nat, i ≤ cc.length ∧ m = cc.length - i ∧ st.keep [1, 7, 8, 9, 10, 11, 12, 36, 37, 38] [] =
    ⟨[(1, iD (IntKind.wrap .i64 (1 + bel d 12))), (7, iD 0), (8, lD .int cc), (9, iD 0), (10, lD .int cc), (11, iD 0), (12, iD (cc.take i).sum), (36, lD .int cc), (37, iD cc.length), (38, iD i)], []⟩, ⟨cc.length, 0, by omega, by omega, rfl⟩, ?_⟩
  rintro st m ⟨i, hi, rfl, hst⟩
  unfold vcC
  rw [hst]
  conv => whnf
  intro t (ht : t = decide ((i : Int) < cc.length))
  cases t
  · have h : ¬ (i : Int) < cc.length := of_decide_eq_false ht.symm
    have e : (cc.take i).sum = IntKind.wrap .i64 (1 + bel d 12) := by rw [List.take_of_length_le (by omega), wn, q1]
    conv => whnf
    iterate 3
      intro t ht
      obtain rfl : t = true := ht
      conv => whnf
    intro t ht
    have ht : t = true := Eq.trans ht (by rw [e]; exact beq_self_eq_true _)
    subst ht
    conv => whnf
    refine ⟨[], ?_⟩
    conv => whnf
    refine h327 _ _ ?_
    conv => whnf
    exact ⟨[], .nil, hR⟩
  have h : (i : Int) < cc.length := of_decide_eq_true ht.symm
  have back : ∀ z y : Int, z = ((i + 1 : Nat) : Int) → y = (cc.take (i + 1)).sum → (⟨[(1, iD (IntKind.wrap .i64 (1 + bel d 12))), (7, iD 0), (8, lD .int cc), (9, iD 0), (10, lD .int cc), (11, iD 0), (12, iD y), (36, lD .int cc), (37, iD cc.length), (38, iD z)], []⟩ : St TT) =
    ⟨[(1, iD (IntKind.wrap .i64 (1 + bel d 12))), (7, iD 0), (8, lD .int cc), (9, iD 0), (10, lD .int cc), (11, iD 0), (12, iD (cc.take (i + 1)).sum), (36, lD .int cc), (37, iD cc.length), (38, iD ((i + 1 : Nat) : Int))], []⟩ := by rintro _ _ rfl rfl; rfl
  conv => whnf
  refine ⟨(⟨by omega, by omega⟩ : (0 : Int) ≤ i ∧ (i : Int) < cc.length), fun (u : Int) (hu : cc[(i : Int).toNat]? = some u) => ?_⟩
  have hu : cc[i]? = some u := by simpa using hu
  have es : (cc.take (i + 1)).sum = (cc.take i).sum + u := by rw [List.take_add_one, hu]; simp
  have ea : (cc.take (i + 1)).sum + (cc.drop (i + 1)).sum = n := by rw [← List.sum_append, List.take_append_drop, q1]
  have p1 := psum (cc.take (i + 1)) fun a ha => q2 a (List.mem_of_mem_take ha)
  have p2 := psum (cc.drop (i + 1)) fun a ha => q2 a (List.mem_of_mem_drop ha)
  have ew : IntKind.wrap .i64 ((cc.take i).sum + u) = (cc.take (i + 1)).sum := by rw [← es]; exact wrapS _ (by omega) (by omega)
  conv => whnf
  exact ⟨cc.length - (i + 1), by omega, i + 1, by omega, rfl, back _ _ (wrapS _ (by omega) (by omega)) ew⟩

end Go.Clap
