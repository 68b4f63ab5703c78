/- Contracts: a node of a value is well-formed, first part. -/
import Derived.Test.YtnielhfaioakkaaClapV3
set_option linter.unusedVariables false
set_option linter.unusedSimpArgs false
namespace Go.Clap
variable {O : Oracle TT}

def scalB (k : Int) : Bool := (decide (k ≥ 0) && decide (k ≤ 5)) || k == 11
def numB (k : Int) : Bool := (decide (k ≥ 1) && decide (k ≤ 4)) || k == 11
def unusedB : V → Bool
  | .mk k n s fs => (!numB k && n != 0) || ((k != 5 && !(s.toList == (ByteArray.mk #[]).toList)) || (scalB k && decide ((fs.length : Int) > 0)))
def numberB : V → Bool
  | .mk k n _ _ => cond (k == 1) (n == 0 || n == 1) (cond (k == 2) (decide (n ≥ -9007199254740992) && decide (n ≤ 9007199254740992))
    (cond (k == 4) (decide (n ≥ 0) && decide (n ≤ 4194304)) (cond (k == 11) (decide (n ≥ 0) && decide (n ≤ 9007199254740992)) true)))

theorem vc127 (k : Int) (R : RR) (hR : R (bD (scalB k)) []) : vcF (S := SS) O ir127 [iD k] [] R := by
  refine ⟨by show 1 ≤ 13; omega, rfl, ?_⟩
  unfold scalB at hR
  repeat' (conv => whnf
           first
           | (intro t ht; try rw [← ht] at hR
              cases t)
           | exact ⟨[], .nil, hR⟩)

theorem vc99 (h127 : ∀ k, Gives O 127 [iD k] (bD (scalB k))) (v : V) (R : RR) (hR : R (bD (unusedB v)) []) : vcF (S := SS) O ir99 [vD v] [] R := by
  obtain ⟨k, n, s, fs⟩ := v
  refine ⟨by show 1 ≤ 45; omega, rfl, ?_⟩
  dsimp only [unusedB, numB] at hR
  repeat' (conv => whnf
           first
           | (intro (hl : fs.length ≤ 9223372036854775807))
           | (intro t ht; try rw [← ht] at hR
              cases t)
           | exact ⟨[], .nil, hR⟩
           | (refine ⟨[], ?_⟩
              conv => whnf
              refine h127 _ _ ?_
              generalize scalB k = q at hR ⊢
              cases q))

theorem vc100 (v : V) (R : RR) (hR : R (bD (numberB v)) []) : vcF (S := SS) O ir100 [vD v] [] R := by
  obtain ⟨k, n, s, fs⟩ := v
  refine ⟨by show 1 ≤ 45; omega, rfl, ?_⟩
  dsimp only [numberB] at hR
  repeat' (conv => whnf
           first
           | (intro t ht; try rw [← ht] at hR
              cases t)
           | exact ⟨[], .nil, hR⟩)

theorem nd1 : (lX 1 ++ []).Nodup := by decide

/-- names$1: the name of g is the one that is kept. -/
theorem vc152 (g : ByteArray × V) (f : ByteArray × V) (R : RR) (hR : R (bD (g.1.toList == f.1.toList)) [(.x 0, some (.var (.str f.1 :: rowV f.2)))]) :
    vcF (S := SS) O ir152 [fD g, .c (.ptr (.x 0) 0 0)] [(.x 0, some (.var (.str f.1 :: rowV f.2)))] R := by
  obtain ⟨s, k, n, t, fs⟩ := g
  obtain ⟨s2, k2, n2, t2, fs2⟩ := f
  refine ⟨by show 2 ≤ 9; omega, rfl, ?_⟩
  conv => whnf
  intro t ht
  subst ht
  exact ⟨[], nd1, hR⟩

/-- A search by name. -/
def hasName (nm : ByteArray) (l : List (ByteArray × V)) : Bool := l.any fun g => g.1.toList == nm.toList
def idxName (nm : ByteArray) : List (ByteArray × V) → Int → Int
  | [], _ => -1
  | g :: l, i => if (g.1.toList == nm.toList) = true then i else idxName nm l (i + 1)
theorem idxName_ge (nm : ByteArray) : ∀ (l : List (ByteArray × V)) (i : Int), 0 ≤ i → decide (idxName nm l i ≥ 0) = hasName nm l
  | [], i, h => by simp [idxName, hasName]
  | g :: l, i, h => by
    have ih := idxName_ge nm l (i + 1) (by omega)
    unfold idxName
    by_cases e : (g.1.toList == nm.toList) = true
    · rw [if_pos e]; simp [hasName, e, h]
    · rw [if_neg e, ih]; simp [hasName, e]

abbrev fE (f : ByteArray × V) : List (Id × Option (Ent TT)) := [(.x 0, some (.var (.str f.1 :: rowV f.2)))]

theorem vc163 (f : ByteArray × V) (h152 : ∀ (g : ByteArray × V) (R : RR), R (bD (g.1.toList == f.1.toList)) (fE f) → O 152 [fD g, .c (.ptr (.x 0) 0 0)] (fE f) R)
    (l : List (ByteArray × V)) (R : RR) (hR : R (iD (idxName f.1 l 0)) (fE f)) :
    vcF (S := SS) O ir163 [lD .fld l, .c (.fn 152 [.x 0])] (fE f) R := by
  obtain ⟨s2, k2, n2, t2, fs2⟩ := f
  refine ⟨by show 2 ≤ 19; omega, rfl, ?_⟩
  conv => whnf
  intro (hlen : l.length ≤ 9223372036854775807)
  conv => whnf
  refine ⟨fun σ n => ∃ i : Nat, i ≤ l.length ∧ n = l.length - i ∧ idxName s2 l 0 = idxName s2 (l.drop i) i ∧
    σ.keep [0, 1, 7, 8] [.x 0] = ⟨[(0, lD .fld l), (1, .c (.fn 152 [.x 0])), (7, iD l.length), (8, iD i)], fE (s2, .mk k2 n2 t2 fs2)⟩, ⟨l.length, 0, by omega, by omega, rfl, rfl⟩, ?_⟩
  rintro σ n ⟨i, hi, rfl, hor, hσ⟩
  unfold vcC
  rw [hσ]
  conv => whnf
  intro t (ht : t = decide ((i : Int) < l.length))
  cases t
  · have h : ¬ (i : Int) < l.length := of_decide_eq_false ht.symm
    have h0 : l.drop i = [] := List.drop_eq_nil_of_le (by omega)
    rw [show ((s2, V.mk k2 n2 t2 fs2) : ByteArray × V).1 = s2 from rfl, hor, h0, idxName] at hR
    exact ⟨[], nd1, hR⟩
  · have h : (i : Int) < l.length := of_decide_eq_true ht.symm
    conv => whnf
    refine ⟨(⟨by omega, by omega⟩ : (0 : Int) ≤ i ∧ (i : Int) < l.length), fun (u : ByteArray × V) (hu : l[(i : Int).toNat]? = some u) => ?_⟩
    have hu : l[i]? = some u := by simpa using hu
    obtain ⟨s, k, n, t, fs⟩ := u
    conv => whnf
    refine ⟨[.x 0], ?_⟩
    conv => whnf
    refine h152 (s, .mk k n t fs) _ ?_
    conv => whnf
    generalize hq : (s.toList == s2.toList) = q
    cases q
    · conv => whnf
      refine ⟨l.length - (i + 1), by omega, i + 1, by omega, rfl, ?_, ?_⟩
      · rw [hor, drop_cons hu, idxName, if_neg (by rw [hq]; decide)]; rfl
      · rw [← wrap_succ (show i < l.length by omega) hlen]
        rfl
    · rw [show ((s2, V.mk k2 n2 t2 fs2) : ByteArray × V).1 = s2 from rfl, hor, drop_cons hu, idxName, if_pos hq] at hR
      exact ⟨[], nd1, hR⟩

theorem vc151 (f : ByteArray × V) (l : List (ByteArray × V)) (h163 : ∀ (R : RR), R (iD (idxName f.1 l 0)) (fE f) → O 163 [lD .fld l, .c (.fn 152 [.x 0])] (fE f) R)
    (R : RR) (hR : R (bD (hasName f.1 l)) (fE f)) :
    vcF (S := SS) O ir151 [lD .fld l, .c (.fn 152 [.x 0])] (fE f) R := by
  obtain ⟨s2, k2, n2, t2, fs2⟩ := f
  refine ⟨by show 2 ≤ 9; omega, rfl, ?_⟩
  conv => whnf
  refine ⟨[.x 0], ?_⟩
  conv => whnf
  refine h163 _ ?_
  conv => whnf
  intro t ht
  rw [← idxName_ge _ _ 0 (by omega), ← ht] at hR
  exact ⟨[], nd1, hR⟩

end Go.Clap
