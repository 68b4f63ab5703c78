/- Contracts: size and depth of values. -/
import Derived.Test.YtnielhfaioakkaaGreatClapV2
set_option linter.unusedVariables false
set_option linter.unusedSimpArgs false
namespace Go.Clap
variable {O : Oracle TT}

mutual
def sizeV : V → Int
  | .mk _ _ _ fs => sizeAcc 1 fs
def sizeAcc (n : Int) : List (ByteArray × V) → Int
  | [] => n
  | (_, v) :: xs => sizeAcc (IntKind.wrap .i64 (n + sizeV v)) xs
end

theorem vc75 (v : V) (h75 : ∀ x ∈ v.fs, Gives O 75 [vD x.2] (iD (sizeV x.2))) (R : RR) (hR : R (iD (sizeV v)) []) : vcF (S := SS) O ir75 [vD v] [] R := by
  obtain ⟨k, n, s, fs⟩ := v
  refine ⟨by show 1 ≤ 20; omega, rfl, ?_⟩
  conv => whnf
  intro (hlen : fs.length ≤ 9223372036854775807)
  conv => whnf
  refine ⟨fun σ n => ∃ (i : Nat) (m : Int), i ≤ fs.length ∧ n = fs.length - i ∧ sizeAcc 1 fs = sizeAcc m (fs.drop i) ∧
    σ.keep [3, 7, 8, 9] [] = ⟨[(3, iD m), (7, lD .fld fs), (8, iD fs.length), (9, iD i)], []⟩, ⟨fs.length, 0, 1, by omega, by omega, rfl, rfl⟩, ?_⟩
  rintro σ n ⟨i, m, hi, rfl, hor, hσ⟩
  unfold vcC
  rw [hσ]
  conv => whnf
  intro t (ht : t = decide ((i : Int) < fs.length))
  cases t
  rotate_left
  · have h : (i : Int) < fs.length := of_decide_eq_true ht.symm
    conv => whnf
    refine ⟨(⟨by omega, by omega⟩ : (0 : Int) ≤ i ∧ (i : Int) < fs.length), fun (u : ByteArray × V) (hu : fs[(i : Int).toNat]? = some u) => ?_⟩
    have hu : fs[i]? = some u := by simpa using hu
    have hm := h75 u (List.mem_of_getElem? hu)
    obtain ⟨s', k', n', t', fs'⟩ := u
    conv => whnf
    refine ⟨[], ?_⟩
    conv => whnf
    refine hm _ ?_
    conv => whnf
    refine ⟨fs.length - (i + 1), by omega, i + 1, IntKind.wrap .i64 (m + sizeV (.mk k' n' t' fs')), by omega, rfl, ?_, ?_⟩
    · rw [hor, drop_cons hu, sizeAcc]
    · rw [← wrap_succ (show i < fs.length by omega) hlen]
      rfl
  · have h : ¬ (i : Int) < fs.length := of_decide_eq_false ht.symm
    conv => whnf
    refine ⟨[], .nil, ?_⟩
    have h0 : fs.drop i = [] := List.drop_eq_nil_of_le (by omega)
    rw [sizeV, hor, h0, sizeAcc] at hR
    exact hR

mutual
def deepV : V → Int
  | .mk _ _ _ fs => IntKind.wrap .i64 (deepAcc 0 fs + 1)
def deepAcc (n : Int) : List (ByteArray × V) → Int
  | [] => n
  | (_, v) :: xs => deepAcc (if deepV v > n then deepV v else n) xs
end

theorem vc76 (v : V) (h76 : ∀ x ∈ v.fs, Gives O 76 [vD x.2] (iD (deepV x.2))) (R : RR) (hR : R (iD (deepV v)) []) : vcF (S := SS) O ir76 [vD v] [] R := by
  obtain ⟨k, n, s, fs⟩ := v
  refine ⟨by show 1 ≤ 21; omega, rfl, ?_⟩
  conv => whnf
  intro (hlen : fs.length ≤ 9223372036854775807)
  conv => whnf
  refine ⟨fun σ n => ∃ (i : Nat) (m : Int), i ≤ fs.length ∧ n = fs.length - i ∧ deepAcc 0 fs = deepAcc m (fs.drop i) ∧
    σ.keep [3, 7, 8, 9] [] = ⟨[(3, iD m), (7, lD .fld fs), (8, iD fs.length), (9, iD i)], []⟩, ⟨fs.length, 0, 0, by omega, by omega, rfl, rfl⟩, ?_⟩
  rintro σ n ⟨i, m, hi, rfl, hor, hσ⟩
  unfold vcC
  rw [hσ]
  conv => whnf
  intro t (ht : t = decide ((i : Int) < fs.length))
  cases t
  rotate_left
  · have h : (i : Int) < fs.length := of_decide_eq_true ht.symm
    conv => whnf
    refine ⟨(⟨by omega, by omega⟩ : (0 : Int) ≤ i ∧ (i : Int) < fs.length), fun (u : ByteArray × V) (hu : fs[(i : Int).toNat]? = some u) => ?_⟩
    have hu : fs[i]? = some u := by simpa using hu
    have hm := h76 u (List.mem_of_getElem? hu)
    obtain ⟨s', k', n', t', fs'⟩ := u
    conv => whnf
    refine ⟨[], ?_⟩
    conv => whnf
    refine hm _ ?_
    conv => whnf
    refine ⟨fs.length - (i + 1), by omega, i + 1, if deepV (.mk k' n' t' fs') > m then deepV (.mk k' n' t' fs') else m, by omega, rfl, ?_, ?_⟩
    · rw [hor, drop_cons hu, deepAcc]
    · rw [← wrap_succ (show i < fs.length by omega) hlen]
      rfl
  · have h : ¬ (i : Int) < fs.length := of_decide_eq_false ht.symm
    conv => whnf
    refine ⟨[], .nil, ?_⟩
    have h0 : fs.drop i = [] := List.drop_eq_nil_of_le (by omega)
    rw [deepV, hor, h0, deepAcc] at hR
    exact hR

end Go.Clap

set_option linter.unusedVariables false
set_option linter.unusedSimpArgs false
namespace Go.Clap
variable {O : Oracle TT}

def scalB (k : Int) : Bool := (decide (k ≥ 0) && decide (k ≤ 5)) || k == 11
def numB (k : Int) : Bool := (decide (k ≥ 1) && decide (k ≤ 4)) || k == 11
def unusedB : V → Bool
  | .mk k n s fs => (!numB k && n != 0) || ((k != 5 && !(s.toList == (ByteArray.mk #[]).toList)) || (scalB k && decide ((fs.length : Int) > 0)))
def numberB : V → Bool
  | .mk k n _ _ => cond (k == 1) (n == 0 || n == 1) (cond (k == 2) (decide (n ≥ -9007199254740992) && decide (n ≤ 9007199254740992))
    (cond (k == 4) (decide (n ≥ 0) && decide (n ≤ 4194304)) (cond (k == 11) (decide (n ≥ 0) && decide (n ≤ 9007199254740992)) true)))

theorem vc127 (k : Int) (R : RR) (hR : R (bD (scalB k)) []) : vcF (S := SS) O ir127 [iD k] [] R := by
  refine ⟨by show 1 ≤ 13; omega, rfl, ?_⟩
  unfold scalB at hR
  repeat' (conv => whnf
           first
           | (intro t ht; try rw [← ht] at hR
              cases t)
           | exact ⟨[], .nil, hR⟩)

theorem vc99 (h127 : ∀ k, Gives O 127 [iD k] (bD (scalB k))) (v : V) (R : RR) (hR : R (bD (unusedB v)) []) : vcF (S := SS) O ir99 [vD v] [] R := by
  obtain ⟨k, n, s, fs⟩ := v
  refine ⟨by show 1 ≤ 45; omega, rfl, ?_⟩
  dsimp only [unusedB, numB] at hR
  repeat' (conv => whnf
           first
           | (intro (hl : fs.length ≤ 9223372036854775807))
           | (intro t ht; try rw [← ht] at hR
              cases t)
           | exact ⟨[], .nil, hR⟩
           | (refine ⟨[], ?_⟩
              conv => whnf
              refine h127 _ _ ?_
              generalize scalB k = q at hR ⊢
              cases q))

theorem vc100 (v : V) (R : RR) (hR : R (bD (numberB v)) []) : vcF (S := SS) O ir100 [vD v] [] R := by
  obtain ⟨k, n, s, fs⟩ := v
  refine ⟨by show 1 ≤ 45; omega, rfl, ?_⟩
  dsimp only [numberB] at hR
  repeat' (conv => whnf
           first
           | (intro t ht; try rw [← ht] at hR
              cases t)
           | exact ⟨[], .nil, hR⟩)

theorem nd1 : (lX 1 ++ []).Nodup := by decide

/-- names$1: the name of g is the one that is kept. -/
theorem vc152 (g : ByteArray × V) (f : ByteArray × V) (R : RR) (hR : R (bD (g.1.toList == f.1.toList)) [(.x 0, some (.var (.str f.1 :: rowV f.2)))]) :
    vcF (S := SS) O ir152 [fD g, .c (.ptr (.x 0) 0 0)] [(.x 0, some (.var (.str f.1 :: rowV f.2)))] R := by
  obtain ⟨s, k, n, t, fs⟩ := g
  obtain ⟨s2, k2, n2, t2, fs2⟩ := f
  refine ⟨by show 2 ≤ 9; omega, rfl, ?_⟩
  conv => whnf
  intro t ht
  subst ht
  exact ⟨[], nd1, hR⟩

/-- A search by name. -/
def hasName (nm : ByteArray) (l : List (ByteArray × V)) : Bool := l.any fun g => g.1.toList == nm.toList
def idxName (nm : ByteArray) : List (ByteArray × V) → Int → Int
  | [], _ => -1
  | g :: l, i => if (g.1.toList == nm.toList) = true then i else idxName nm l (i + 1)
theorem idxName_ge (nm : ByteArray) : ∀ (l : List (ByteArray × V)) (i : Int), 0 ≤ i → decide (idxName nm l i ≥ 0) = hasName nm l
  | [], i, h => by simp [idxName, hasName]
  | g :: l, i, h => by
    have ih := idxName_ge nm l (i + 1) (by omega)
    unfold idxName
    by_cases e : (g.1.toList == nm.toList) = true
    · rw [if_pos e]; simp [hasName, e, h]
    · rw [if_neg e, ih]; simp [hasName, e]

abbrev fE (f : ByteArray × V) : List (Id × Option (Ent TT)) := [(.x 0, some (.var (.str f.1 :: rowV f.2)))]

theorem vc163 (f : ByteArray × V) (h152 : ∀ (g : ByteArray × V) (R : RR), R (bD (g.1.toList == f.1.toList)) (fE f) → O 152 [fD g, .c (.ptr (.x 0) 0 0)] (fE f) R)
    (l : List (ByteArray × V)) (R : RR) (hR : R (iD (idxName f.1 l 0)) (fE f)) :
    vcF (S := SS) O ir163 [lD .fld l, .c (.fn 152 [.x 0])] (fE f) R := by
  obtain ⟨s2, k2, n2, t2, fs2⟩ := f
  refine ⟨by show 2 ≤ 19; omega, rfl, ?_⟩
  conv => whnf
  intro (hlen : l.length ≤ 9223372036854775807)
  conv => whnf
  refine ⟨fun σ n => ∃ i : Nat, i ≤ l.length ∧ n = l.length - i ∧ idxName s2 l 0 = idxName s2 (l.drop i) i ∧
    σ.keep [0, 1, 7, 8] [.x 0] = ⟨[(0, lD .fld l), (1, .c (.fn 152 [.x 0])), (7, iD l.length), (8, iD i)], fE (s2, .mk k2 n2 t2 fs2)⟩, ⟨l.length, 0, by omega, by omega, rfl, rfl⟩, ?_⟩
  rintro σ n ⟨i, hi, rfl, hor, hσ⟩
  unfold vcC
  rw [hσ]
  conv => whnf
  intro t (ht : t = decide ((i : Int) < l.length))
  cases t
  · have h : ¬ (i : Int) < l.length := of_decide_eq_false ht.symm
    have h0 : l.drop i = [] := List.drop_eq_nil_of_le (by omega)
    rw [show ((s2, V.mk k2 n2 t2 fs2) : ByteArray × V).1 = s2 from rfl, hor, h0, idxName] at hR
    exact ⟨[], nd1, hR⟩
  · have h : (i : Int) < l.length := of_decide_eq_true ht.symm
    conv => whnf
    refine ⟨(⟨by omega, by omega⟩ : (0 : Int) ≤ i ∧ (i : Int) < l.length), fun (u : ByteArray × V) (hu : l[(i : Int).toNat]? = some u) => ?_⟩
    have hu : l[i]? = some u := by simpa using hu
    obtain ⟨s, k, n, t, fs⟩ := u
    conv => whnf
    refine ⟨[.x 0], ?_⟩
    conv => whnf
    refine h152 (s, .mk k n t fs) _ ?_
    conv => whnf
    generalize hq : (s.toList == s2.toList) = q
    cases q
    · conv => whnf
      refine ⟨l.length - (i + 1), by omega, i + 1, by omega, rfl, ?_, ?_⟩
      · rw [hor, drop_cons hu, idxName, if_neg (by rw [hq]; decide)]; rfl
      · rw [← wrap_succ (show i < l.length by omega) hlen]
        rfl
    · rw [show ((s2, V.mk k2 n2 t2 fs2) : ByteArray × V).1 = s2 from rfl, hor, drop_cons hu, idxName, if_pos hq] at hR
      exact ⟨[], nd1, hR⟩

theorem vc151 (f : ByteArray × V) (l : List (ByteArray × V)) (h163 : ∀ (R : RR), R (iD (idxName f.1 l 0)) (fE f) → O 163 [lD .fld l, .c (.fn 152 [.x 0])] (fE f) R)
    (R : RR) (hR : R (bD (hasName f.1 l)) (fE f)) :
    vcF (S := SS) O ir151 [lD .fld l, .c (.fn 152 [.x 0])] (fE f) R := by
  obtain ⟨s2, k2, n2, t2, fs2⟩ := f
  refine ⟨by show 2 ≤ 9; omega, rfl, ?_⟩
  conv => whnf
  refine ⟨[.x 0], ?_⟩
  conv => whnf
  refine h163 _ ?_
  conv => whnf
  intro t ht
  rw [← idxName_ge _ _ 0 (by omega), ← ht] at hR
  exact ⟨[], nd1, hR⟩

end Go.Clap

set_option linter.unusedVariables false
set_option linter.unusedSimpArgs false
namespace Go.Clap
variable {O : Oracle TT}

def isEmptyB (s : ByteArray) : Bool := s.toList == (ByteArray.mk #[]).toList
def byteOk (c : Int) : Bool := (decide (c ≥ 97) && decide (c ≤ 122)) || ((decide (c ≥ 48) && decide (c ≤ 57)) || c == 45)
def headBad (s : ByteArray) : Bool := (s.toList == (ByteArray.mk #[]).toList) || (decide ((s.size : Int) > 16) ||
  match s.data[0]? with
  | none => false
  | some c => decide ((c.toNat : Int) < 97) || decide ((c.toNat : Int) > 122))
def bytesI (s : ByteArray) : List Int := s.data.toList.map fun b => (b.toNat : Int)
def nameB (s : ByteArray) : Bool := cond (headBad s) false ((bytesI s).all byteOk)
def namesAcc : List (ByteArray × V) → List (ByteArray × V) → Int
  | _, [] => 0
  | done, f :: rest => if nameB f.1 = false then 15 else if hasName f.1 done = true then 5 else namesAcc (done ++ [f]) rest
def leB (a b : ByteArray) : Bool := Op.bytesLess a.toList b.toList || a.toList == b.toList
def keysAcc (k : Int) : Option ByteArray → List (ByteArray × V) → Int
  | _, [] => 0
  | p, f :: rest => if (k == 8) = true then (if (!(f.1.toList == (ByteArray.mk #[]).toList)) = true then 3 else keysAcc k (some f.1) rest)
    else if (f.1.size : Int) > 4000 then 2 else if (match p with | some q => leB f.1 q | none => false) = true then 9 else keysAcc k (some f.1) rest
theorem keysAcc_nil (k : Int) (p : Option ByteArray) : keysAcc k p [] = 0 := by cases p <;> rfl
theorem keysAcc_cons (k : Int) (p : Option ByteArray) (f : ByteArray × V) (rest : List (ByteArray × V)) : keysAcc k p (f :: rest) =
    if (k == 8) = true then (if (!(f.1.toList == (ByteArray.mk #[]).toList)) = true then 3 else keysAcc k (some f.1) rest)
    else if (f.1.size : Int) > 4000 then 2 else if (match p with | some q => leB f.1 q | none => false) = true then 9 else keysAcc k (some f.1) rest := by
  cases p <;> rfl
def fieldsI : V → Int
  | .mk k n s fs => if k = 5 then (if (s.size : Int) > 4000 then 2 else 0) else if k = 6 then (if (fs.length : Int) > 24 then 2 else namesAcc [] fs)
    else if k = 7 then (if (fs.length : Int) ≠ 1 then 3 else namesAcc [] fs) else if k = 8 ∨ k = 9 then (if (fs.length : Int) > 200 then 2 else keysAcc k none fs) else 0
def badK (k : Int) (root : Bool) : Bool := decide (k < 0) || (decide (k ≥ 12) || (k == 10 || (k == 11 && !root)))
mutual
def nodeV : V → Bool → Int
  | .mk k n s fs, root => cond (badK k root || unusedB (.mk k n s fs)) 3 (cond (!numberB (.mk k n s fs)) 11 (cond (fieldsI (.mk k n s fs) != 0) (fieldsI (.mk k n s fs)) (nodeFs fs)))
def nodeFs : List (ByteArray × V) → Int
  | [] => 0
  | (_, v) :: rest => cond (nodeV v false != 0) (nodeV v false) (nodeFs rest)
end
def checkV (v : V) : Int := cond (decide (sizeV v > 2000) || decide (deepV v > 40)) 2 (nodeV v true)

theorem vc132 (s : ByteArray) (R : RR) (hR : R (bD (nameB s)) []) : vcF (S := SS) O ir132 [sD s] [] R := by
  refine ⟨by show 1 ≤ 49; omega, rfl, ?_⟩
  rw [nameB, headBad] at hR
  conv => whnf
  intro t ht
  rw [← ht] at hR
  cases t
  rotate_left
  · exact ⟨[], .nil, hR⟩
  have hpos : 0 < s.size := by
    rcases Nat.eq_zero_or_pos s.size with h | h
    · exfalso
      have h0 : s.data = #[] := Array.eq_empty_of_size_eq_zero h
      have : s.toList = (ByteArray.mk #[]).toList := by rw [ByteArray.toList_eq, ByteArray.toList_eq, h0]
      rw [this] at ht
      simp at ht
    · exact h
  obtain ⟨c, hc⟩ : ∃ c, s.data[0]? = some c := ⟨s.data[0]'hpos, Array.getElem?_eq_getElem hpos⟩
  rw [hc] at hR
  dsimp only at hR
  conv => whnf
  intro t ht2
  rw [← ht2] at hR
  cases t
  rotate_left
  · exact ⟨[], .nil, hR⟩
  have hsz : ¬ (s.size : Int) > 16 := of_decide_eq_false ht2.symm
  conv => whnf
  refine ⟨(⟨by omega, by omega⟩ : (0 : Int) ≤ 0 ∧ (0 : Int) < s.size), fun (b : UInt8) (hb : s.data[(0 : Int).toNat]? = some b) => ?_⟩
  have hbc : b = c := by
    rw [show (0 : Int).toNat = 0 from rfl, hc] at hb
    exact (Option.some.inj hb).symm
  subst hbc
  conv => whnf
  intro t ht3
  rw [← ht3] at hR
  cases t
  rotate_left
  · exact ⟨[], .nil, hR⟩
  conv => whnf
  refine ⟨(⟨by omega, by omega⟩ : (0 : Int) ≤ 0 ∧ (0 : Int) < s.size), fun (b' : UInt8) (hb' : s.data[(0 : Int).toNat]? = some b') => ?_⟩
  have hbc : b' = b := by
    rw [show (0 : Int).toNat = 0 from rfl, hc] at hb'
    exact (Option.some.inj hb').symm
  subst hbc
  conv => whnf
  intro t ht4
  rw [← ht4] at hR
  cases t
  rotate_left
  · exact ⟨[], .nil, hR⟩
  replace hR : R (bD ((bytesI s).all byteOk)) [] := hR
  conv => whnf
  refine ⟨(by omega : s.size ≤ 9223372036854775807), ?_⟩
  conv => whnf
  intro (hlen : (bytesI s).length ≤ 9223372036854775807)
  have hll : ∀ q, q = bytesI s → q.all byteOk = (bytesI s).all byteOk := by rintro q rfl; rfl
  conv => whnf
  refine ⟨fun σ n => ∃ i : Nat, i ≤ (bytesI s).length ∧ n = (bytesI s).length - i ∧ (bytesI s).all byteOk = ((bytesI s).drop i).all byteOk ∧
    σ.keep [23, 24, 25] [] = ⟨[(23, lD .u8 (bytesI s)), (24, iD (bytesI s).length), (25, iD i)], []⟩, ⟨(bytesI s).length, 0, by omega, by omega, rfl, rfl⟩, ?_⟩
  generalize bytesI s = l at hR hlen ⊢
  rintro σ n ⟨i, hi, rfl, hor, hσ⟩
  unfold vcC
  rw [hσ]
  rw [hor] at hR
  conv => whnf
  intro t (ht : t = decide ((i : Int) < l.length))
  cases t
  · have h : ¬ (i : Int) < l.length := of_decide_eq_false ht.symm
    have h0 : l.drop i = [] := List.drop_eq_nil_of_le (by omega)
    rw [h0] at hR
    exact ⟨[], .nil, hR⟩
  have h : (i : Int) < l.length := of_decide_eq_true ht.symm
  conv => whnf
  refine ⟨(⟨by omega, by omega⟩ : (0 : Int) ≤ i ∧ (i : Int) < l.length), fun (u : Int) (hu : l[(i : Int).toNat]? = some u) => ?_⟩
  have hu : l[i]? = some u := by simpa using hu
  rw [drop_cons hu, List.all_cons, byteOk] at hR hor
  have back : ∀ z : Int, z = ((i + 1 : Nat) : Int) → (⟨[(23, lD .u8 l), (24, iD l.length), (25, iD z)], []⟩ : St TT) = ⟨[(23, lD .u8 l), (24, iD l.length), (25, iD ((i + 1 : Nat) : Int))], []⟩ := by rintro z rfl; rfl
  have wi := wrap_succ (show i < l.length by omega) hlen
  repeat' (conv => whnf
           first
           | (intro t ht; rw [← ht] at hR hor
              cases t)
           | exact ⟨[], .nil, hR⟩
           | exact ⟨l.length - (i + 1), by omega, i + 1, by omega, rfl, hor, back _ wi⟩)

theorem vc128 (h132 : ∀ s, Gives O 132 [sD s] (bD (nameB s)))
    (h151 : ∀ (f : ByteArray × V) (l : List (ByteArray × V)) (R : RR), R (bD (hasName f.1 l)) (fE f) → O 151 [lD .fld l, .c (.fn 152 [.x 0])] (fE f) R)
    (l : List (ByteArray × V)) (R : RR) (hR : R (iD (namesAcc [] l)) []) : vcF (S := SS) O ir128 [lD .fld l] [] R := by
  refine ⟨by show 1 ≤ 22; omega, rfl, ?_⟩
  conv => whnf
  intro (hlen : l.length ≤ 9223372036854775807)
  conv => whnf
  refine ⟨fun σ n => ∃ i : Nat, i ≤ l.length ∧ n = l.length - i ∧ namesAcc [] l = namesAcc (l.take i) (l.drop i) ∧
    σ.keep [0, 5, 6, 7] [] = ⟨[(0, lD .fld l), (5, lD .fld l), (6, iD l.length), (7, iD i)], []⟩, ⟨l.length, 0, by omega, by omega, rfl, rfl⟩, ?_⟩
  rintro σ n ⟨i, hi, rfl, hor, hσ⟩
  unfold vcC
  rw [hσ]
  conv => whnf
  intro t (ht : t = decide ((i : Int) < l.length))
  cases t
  · have h : ¬ (i : Int) < l.length := of_decide_eq_false ht.symm
    have h0 : l.drop i = [] := List.drop_eq_nil_of_le (by omega)
    rw [hor, h0, namesAcc] at hR
    exact ⟨[], .nil, hR⟩
  · have h : (i : Int) < l.length := of_decide_eq_true ht.symm
    conv => whnf
    refine ⟨(⟨by omega, by omega⟩ : (0 : Int) ≤ i ∧ (i : Int) < l.length), fun (u : ByteArray × V) (hu : l[(i : Int).toNat]? = some u) => ?_⟩
    have hu : l[i]? = some u := by simpa using hu
    have hd := drop_cons hu
    obtain ⟨s, k, n, t, fs⟩ := u
    conv => whnf
    refine ⟨[], ?_⟩
    conv => whnf
    refine h132 _ _ ?_
    generalize hq : nameB s = q
    cases q
    · conv => whnf
      rw [hor, hd, namesAcc, if_pos hq] at hR
      exact ⟨[], .nil, hR⟩
    · conv => whnf
      refine ⟨(by omega : (0 : Int) ≤ i), ?_⟩
      conv => whnf
      refine ⟨(⟨by omega, by omega⟩ : 0 ≤ (i : Int).toNat ∧ (i : Int).toNat ≤ l.length), ?_⟩
      conv => whnf
      refine ⟨[.s 4], ?_⟩
      conv => whnf
      refine h151 (s, .mk k n t fs) _ _ ?_
      have he : (l.drop 0).take ((i : Int).toNat - 0) = l.take i := by simp
      generalize hq2 : hasName (s, V.mk k n t fs).1 _ = q
      have hq3 : hasName s (l.take i) = q := by rw [← hq2, ← he]
      clear hq2
      cases q
      · conv => whnf
        refine ⟨l.length - (i + 1), by omega, i + 1, by omega, rfl, ?_, ?_⟩
        · rw [hor, hd, namesAcc, if_neg (by rw [hq]; decide), if_neg (by rw [hq3]; decide), List.take_add_one, hu]; rfl
        · rw [← wrap_succ (show i < l.length by omega) hlen]
          rfl
      · conv => whnf
        rw [hor, hd, namesAcc, if_neg (by rw [hq]; decide), if_pos hq3] at hR
        exact ⟨[], .nil, hR⟩

theorem vc129 (v : V) (R : RR) (hR : R (iD (keysAcc v.kind none v.fs)) []) : vcF (S := SS) O ir129 [vD v] [] R := by
  obtain ⟨k, nn, ss, l⟩ := v
  refine ⟨by show 1 ≤ 47; omega, rfl, ?_⟩
  conv => whnf
  intro (hlen : l.length ≤ 9223372036854775807)
  conv => whnf
  refine ⟨fun σ n => ∃ i : Nat, i ≤ l.length ∧ n = l.length - i ∧ keysAcc k none l = keysAcc k (if i = 0 then none else (l[i - 1]?).map (·.1)) (l.drop i) ∧
    σ.keep [1, 6, 7, 8] [.s 1] = ⟨[(1, .c (.ptr (.s 1) 0 0)), (6, lD .fld l), (7, iD l.length), (8, iD i)], [(.s 1, some (.var (rowV (.mk k nn ss l))))]⟩, ⟨l.length, 0, by omega, by omega, rfl, rfl⟩, ?_⟩
  rintro σ n ⟨i, hi, rfl, hor, hσ⟩
  unfold vcC
  rw [hσ]
  conv => whnf
  intro t (ht : t = decide ((i : Int) < l.length))
  cases t
  · have h : ¬ (i : Int) < l.length := of_decide_eq_false ht.symm
    have h0 : l.drop i = [] := List.drop_eq_nil_of_le (by omega)
    rw [show (V.mk k nn ss l).kind = k from rfl, show (V.mk k nn ss l).fs = l from rfl, hor, h0, keysAcc_nil] at hR
    exact ⟨[], .nil, hR⟩
  have h : (i : Int) < l.length := of_decide_eq_true ht.symm
  conv => whnf
  refine ⟨(⟨by omega, by omega⟩ : (0 : Int) ≤ i ∧ (i : Int) < l.length), fun (u : ByteArray × V) (hu : l[(i : Int).toNat]? = some u) => ?_⟩
  have hu : l[i]? = some u := by simpa using hu
  have hd := drop_cons hu
  obtain ⟨s, k1, n1, t1, fs1⟩ := u
  rw [show (V.mk k nn ss l).kind = k from rfl, show (V.mk k nn ss l).fs = l from rfl, hor, hd, keysAcc_cons] at hR
  have next : (if i + 1 = 0 then none else (l[i + 1 - 1]?).map (·.1)) = some s := by rw [if_neg (by omega), Nat.add_sub_cancel, hu]; rfl
  conv => whnf
  intro t ht
  rw [← ht] at hR
  cases t
  · rw [if_neg (by decide)] at hR
    conv => whnf
    intro t ht2
    rw [← ht] at ht2
    subst ht2
    conv => whnf
    intro t ht2
    cases t
    rotate_left
    · rw [if_pos (of_decide_eq_true ht2.symm)] at hR
      exact ⟨[], .nil, hR⟩
    have hsz : ¬ (s.size : Int) > 4000 := of_decide_eq_false ht2.symm
    rw [if_neg hsz] at hR
    have fin : (if (match (if i = 0 then none else (l[i - 1]?).map (·.1)) with | some q => leB s q | none => false) = true then 9 else keysAcc k (some s) (l.drop (i + 1))) = keysAcc k (some s) (l.drop (i + 1)) →
        keysAcc k none l = keysAcc k (some s) (l.drop (i + 1)) := fun e => by rw [hor, hd, keysAcc_cons, ← ht, if_neg (by decide), if_neg hsz]; exact e
    conv => whnf
    intro t ht3
    cases t
    · have hi0 : i = 0 := by have := of_decide_eq_false ht3.symm; omega
      subst hi0
      refine ⟨l.length - (0 + 1), by omega, 0 + 1, by omega, rfl, ?_, ?_⟩
      · rw [next]; exact fin rfl
      · rw [← wrap_succ (show 0 < l.length by omega) hlen]
        rfl
    · have hi0 : (i : Int) > 0 := of_decide_eq_true ht3.symm
      have hw : IntKind.wrap .i64 ((i : Int) - 1) = ((i - 1 : Nat) : Int) := by rw [IntKind.wrap_i64]; omega
      obtain ⟨p, hp⟩ : ∃ p, l[i - 1]? = some p := ⟨l[i - 1], List.getElem?_eq_getElem (by omega)⟩
      conv => whnf
      refine ⟨(by rw [hw]; omega : (0 : Int) ≤ IntKind.wrap .i64 ((i : Int) - 1) ∧ IntKind.wrap .i64 ((i : Int) - 1) < l.length), fun (u : ByteArray × V) (hu2 : l[(IntKind.wrap .i64 ((i : Int) - 1)).toNat]? = some u) => ?_⟩
      have hu2 : l[i - 1]? = some u := by rw [hw] at hu2; simpa using hu2
      rw [if_neg (show ¬ i = 0 by omega), hu2] at hR fin
      obtain ⟨s2, k2, n2, t2, fs2⟩ := u
      conv => whnf
      intro t ht4
      cases t
      · refine ⟨l.length - (i + 1), by omega, i + 1, by omega, rfl, ?_, ?_⟩
        · rw [next]; exact fin (if_neg (by show ¬ leB s s2 = true; rw [leB, ← ht4]; decide))
        · rw [← wrap_succ (show i < l.length by omega) hlen]
          rfl
      · have hR2 : R (iD (if leB s s2 = true then 9 else keysAcc k (some s) (l.drop (i + 1)))) [] := hR
        rw [leB, ← ht4, if_pos rfl] at hR2
        exact ⟨[], .nil, hR2⟩
  · rw [if_pos rfl] at hR
    conv => whnf
    intro t ht2
    rw [← ht2] at hR
    cases t
    · conv => whnf
      intro t ht3
      rw [← ht] at ht3
      subst ht3
      conv => whnf
      refine ⟨l.length - (i + 1), by omega, i + 1, by omega, rfl, ?_, ?_⟩
      · rw [next, hor, hd, keysAcc_cons, ← ht, if_pos rfl, ← ht2, if_neg (by decide)]
      · rw [← wrap_succ (show i < l.length by omega) hlen]
        rfl
    · rw [if_pos rfl] at hR
      exact ⟨[], .nil, hR⟩

theorem vc101 (h128 : ∀ l, Gives O 128 [lD .fld l] (iD (namesAcc [] l))) (h129 : ∀ v : V, Gives O 129 [vD v] (iD (keysAcc v.kind none v.fs))) (v : V) (R : RR) (hR : R (iD (fieldsI v)) []) :
    vcF (S := SS) O ir101 [vD v] [] R := by
  obtain ⟨k, n, s, fs⟩ := v
  refine ⟨by show 1 ≤ 38; omega, rfl, ?_⟩
  conv => whnf
  intro t ht
  cases t
  rotate_left
  · have hk : k = 5 := by simpa using ht
    rw [fieldsI, if_pos hk] at hR
    conv => whnf
    intro t ht
    cases t
    · rw [if_neg (of_decide_eq_false ht.symm)] at hR
      exact ⟨[], .nil, hR⟩
    · rw [if_pos (of_decide_eq_true ht.symm)] at hR
      exact ⟨[], .nil, hR⟩
  have h5 : ¬ k = 5 := by simpa using ht
  rw [fieldsI, if_neg h5] at hR
  conv => whnf
  intro t ht
  cases t
  rotate_left
  · have hk : k = 6 := by simpa using ht
    rw [if_pos hk] at hR
    conv => whnf
    intro (hl : fs.length ≤ 9223372036854775807)
    conv => whnf
    intro t ht
    cases t
    · rw [if_neg (of_decide_eq_false ht.symm)] at hR
      conv => whnf
      refine ⟨[], ?_⟩
      conv => whnf
      refine h128 _ _ ?_
      exact ⟨[], .nil, hR⟩
    · rw [if_pos (of_decide_eq_true ht.symm)] at hR
      exact ⟨[], .nil, hR⟩
  have h6 : ¬ k = 6 := by simpa using ht
  rw [if_neg h6] at hR
  conv => whnf
  intro t ht
  cases t
  rotate_left
  · have hk : k = 7 := by simpa using ht
    rw [if_pos hk] at hR
    conv => whnf
    intro (hl : fs.length ≤ 9223372036854775807)
    conv => whnf
    intro t ht
    cases t
    · have : ¬ (fs.length : Int) ≠ 1 := by simpa using ht
      rw [if_neg this] at hR
      conv => whnf
      refine ⟨[], ?_⟩
      conv => whnf
      refine h128 _ _ ?_
      exact ⟨[], .nil, hR⟩
    · have : (fs.length : Int) ≠ 1 := by simpa using ht
      rw [if_pos this] at hR
      exact ⟨[], .nil, hR⟩
  have h7 : ¬ k = 7 := by simpa using ht
  rw [if_neg h7] at hR
  have body : ∀ (hk : k = 8 ∨ k = 9), R (iD (if (fs.length : Int) > 200 then 2 else keysAcc k none fs)) [] := fun hk => by rwa [if_pos hk] at hR
  conv => whnf
  intro t ht
  cases t
  rotate_left
  · have hR' := body (.inl (by simpa using ht))
    conv => whnf
    intro (hl : fs.length ≤ 9223372036854775807)
    conv => whnf
    intro t ht
    cases t
    · rw [if_neg (of_decide_eq_false ht.symm)] at hR'
      conv => whnf
      refine ⟨[], ?_⟩
      conv => whnf
      refine h129 (.mk k n s fs) _ ?_
      exact ⟨[], .nil, hR'⟩
    · rw [if_pos (of_decide_eq_true ht.symm)] at hR'
      exact ⟨[], .nil, hR'⟩
  have h8 : ¬ k = 8 := by simpa using ht
  conv => whnf
  intro t ht
  cases t
  rotate_left
  · have hR' := body (.inr (by simpa using ht))
    conv => whnf
    intro (hl : fs.length ≤ 9223372036854775807)
    conv => whnf
    intro t ht
    cases t
    · rw [if_neg (of_decide_eq_false ht.symm)] at hR'
      conv => whnf
      refine ⟨[], ?_⟩
      conv => whnf
      refine h129 (.mk k n s fs) _ ?_
      exact ⟨[], .nil, hR'⟩
    · rw [if_pos (of_decide_eq_true ht.symm)] at hR'
      exact ⟨[], .nil, hR'⟩
  have h9 : ¬ k = 9 := by simpa using ht
  rw [if_neg (by omega)] at hR
  exact ⟨[], .nil, hR⟩

end Go.Clap

set_option linter.unusedVariables false
set_option linter.unusedSimpArgs false
namespace Go.Clap
variable {O : Oracle TT}

theorem vc77 (h99 : ∀ v, Gives O 99 [vD v] (bD (unusedB v))) (h100 : ∀ v, Gives O 100 [vD v] (bD (numberB v))) (h101 : ∀ v, Gives O 101 [vD v] (iD (fieldsI v)))
    (v : V) (root : Bool) (h77 : ∀ x ∈ v.fs, Gives O 77 [vD x.2, bD false] (iD (nodeV x.2 false))) (R : RR) (hR : R (iD (nodeV v root)) []) :
    vcF (S := SS) O ir77 [vD v, bD root] [] R := by
  obtain ⟨k, n, s, l⟩ := v
  refine ⟨by show 2 ≤ 59; omega, rfl, ?_⟩
  rw [nodeV, badK] at hR
  have g99 := h99 (.mk k n s l)
  have g100 := h100 (.mk k n s l)
  have g101 := h101 (.mk k n s l)
  generalize unusedB (.mk k n s l) = u at hR g99
  generalize numberB (.mk k n s l) = nb at hR g100
  generalize fieldsI (.mk k n s l) = fi at hR g101
  cases root
  all_goals repeat' (conv => whnf
                     first
                     | (intro (hl : l.length ≤ 9223372036854775807))
                     | (intro t ht; try rw [← ht] at hR
                        cases t)
                     | exact ⟨[], .nil, hR⟩
                     | (refine ⟨[], ?_⟩
                        conv => whnf
                        first
                        | (refine g99 _ ?_
                           cases u)
                        | (refine g100 _ ?_
                           cases nb)
                        | refine g101 _ ?_))
  all_goals
    refine ⟨fun σ n => ∃ i : Nat, i ≤ l.length ∧ n = l.length - i ∧ nodeFs l = nodeFs (l.drop i) ∧
      σ.keep [46, 47, 48] [] = ⟨[(46, lD .fld l), (47, iD l.length), (48, iD i)], []⟩, ⟨l.length, 0, by omega, by omega, rfl, rfl⟩, ?_⟩
    rintro σ n' ⟨i, hi, rfl, hor, hσ⟩
    unfold vcC
    rw [hσ]
    have hR2 : R (iD (nodeFs l)) [] := hR
    rw [hor] at hR2
    conv => whnf
    intro t (ht : t = decide ((i : Int) < l.length))
    cases t
    · have h : ¬ (i : Int) < l.length := of_decide_eq_false ht.symm
      have h0 : l.drop i = [] := List.drop_eq_nil_of_le (by omega)
      rw [h0, nodeFs] at hR2
      exact ⟨[], .nil, hR2⟩
    · have h : (i : Int) < l.length := of_decide_eq_true ht.symm
      conv => whnf
      refine ⟨(⟨by omega, by omega⟩ : (0 : Int) ≤ i ∧ (i : Int) < l.length), fun (u : ByteArray × V) (hu : l[(i : Int).toNat]? = some u) => ?_⟩
      have hu : l[i]? = some u := by simpa using hu
      have hm := h77 u (List.mem_of_getElem? hu)
      rw [drop_cons hu] at hR2 hor
      obtain ⟨s', k', n', t', fs'⟩ := u
      rw [nodeFs] at hR2 hor
      conv => whnf
      refine ⟨[], ?_⟩
      conv => whnf
      refine hm _ ?_
      conv => whnf
      intro t2 ht2
      have ht2 : t2 = (nodeV (.mk k' n' t' fs') false != 0) := ht2
      rw [← ht2] at hR2 hor
      cases t2
      · refine ⟨l.length - (i + 1), by omega, i + 1, by omega, rfl, hor, ?_⟩
        rw [← wrap_succ (show i < l.length by omega) hl]
        rfl
      · exact ⟨[], .nil, hR2⟩

theorem vc51 (v : V) (h75 : Gives O 75 [vD v] (iD (sizeV v))) (h76 : Gives O 76 [vD v] (iD (deepV v))) (h77 : Gives O 77 [vD v, bD true] (iD (nodeV v true))) (R : RR) (hR : R (iD (checkV v)) []) :
    vcF (S := SS) O ir51 [vD v] [] R := by
  rw [checkV] at hR
  generalize sizeV v = z at hR h75
  generalize deepV v = z2 at hR h76
  generalize nodeV v true = z3 at hR h77
  obtain ⟨k, n, s, fs⟩ := v
  refine ⟨by show 1 ≤ 13; omega, rfl, ?_⟩
  repeat' (conv => whnf
           first
           | (intro t ht; try rw [← ht] at hR
              cases t)
           | exact ⟨[], .nil, hR⟩
           | (refine ⟨[], ?_⟩
              conv => whnf
              first
              | refine h75 _ ?_
              | refine h76 _ ?_
              | refine h77 _ ?_))

def checkL : List V → Int
  | [] => 0
  | v :: rest => cond (checkV v != 0) (checkV v) (cond (v.kind != 8) 8 (checkL rest))

theorem vc31 (h51 : ∀ v, Gives O 51 [vD v] (iD (checkV v))) (a b : V) (R : RR) (hR : R (iD (checkL [a, b])) []) : vcF (S := SS) O ir31 [vD a, vD b] [] R := by
  obtain ⟨l, hl⟩ : ∃ l, l = [a, b] := ⟨_, rfl⟩
  have hlen : l.length = 2 := by rw [hl]; rfl
  rw [← hl] at hR
  have g51 : ∀ v, Gives O 51 [vD v] (iD (checkV v)) := h51
  obtain ⟨k, n, s, fs⟩ := a
  obtain ⟨k2, n2, s2, fs2⟩ := b
  refine ⟨by show 2 ≤ 25; omega, rfl, ?_⟩
  conv => whnf
  intro _
  conv => whnf
  refine ⟨fun σ n => ∃ i : Nat, i ≤ l.length ∧ n = l.length - i ∧ checkL l = checkL (l.drop i) ∧
    σ.keep [10, 11, 12] [] = ⟨[(10, lD .val l), (11, iD 2), (12, iD i)], []⟩, ⟨l.length, 0, by omega, by omega, rfl, by rw [hl]; rfl⟩, ?_⟩
  rintro σ n ⟨i, hi, rfl, hor, hσ⟩
  unfold vcC
  rw [hσ]
  rw [hor] at hR
  conv => whnf
  intro t (ht : t = decide ((i : Int) < 2))
  cases t
  · have h : ¬ (i : Int) < 2 := of_decide_eq_false ht.symm
    have h0 : l.drop i = [] := List.drop_eq_nil_of_le (by omega)
    rw [h0, checkL] at hR
    exact ⟨[], .nil, hR⟩
  · have h : (i : Int) < 2 := of_decide_eq_true ht.symm
    conv => whnf
    refine ⟨(⟨by omega, by omega⟩ : (0 : Int) ≤ i ∧ (i : Int) < l.length), fun (u : V) (hu : l[(i : Int).toNat]? = some u) => ?_⟩
    have hu : l[i]? = some u := by simpa using hu
    rw [drop_cons hu] at hR hor
    rw [checkL] at hR hor
    have g := g51 u
    generalize hc : checkV u = c at g hR hor
    obtain ⟨k', n', t', fs'⟩ := u
    conv => whnf
    refine ⟨[], ?_⟩
    conv => whnf
    refine g _ ?_
    conv => whnf
    intro t2 ht2
    have ht2 : t2 = (c != 0) := ht2
    rw [← ht2] at hR hor
    cases t2
    · conv => whnf
      intro t3 ht3
      have ht3 : t3 = ((V.mk k' n' t' fs').kind != 8) := ht3
      rw [← ht3] at hR hor
      cases t3
      · refine ⟨l.length - (i + 1), by omega, i + 1, by omega, rfl, hor, ?_⟩
        rw [← wrap_succ (show i < l.length by omega) (show l.length ≤ 9223372036854775807 by omega)]
        rfl
      · exact ⟨[], .nil, hR⟩
    · exact ⟨[], .nil, hR⟩

/-- What the fields of two records cost. -/
def costAcc : Int → List (ByteArray × V) → List (ByteArray × V) → Int
  | n, f :: fs, g :: gs => cond (!(f.1.toList == g.1.toList)) 3 (costAcc (cond (!decide (cmpV f.2 g.2 = 0)) (IntKind.wrap .i64 (n + 1)) n) fs gs)
  | n, _, _ => if 3 < n then 3 else n
def costV (v w : V) : Int :=
  cond (decide (cmpV v w = 0)) 0 (cond (v.kind != 6 || (w.kind != 6 || (v.fs.length : Int) != w.fs.length)) 3 (costAcc 0 v.fs w.fs))

theorem vc33 (h11 : ∀ a b, Gives O 11 [vD a, vD b] (bD (decide (cmpV a b = 0)))) (v w : V) (R : RR) (hR : R (iD (costV v w)) []) : vcF (S := SS) O ir33 [vD v, vD w] [] R := by
  rw [costV] at hR
  have g := h11 v w
  generalize decide (cmpV v w = 0) = c at hR g
  obtain ⟨k, n, s, xs⟩ := v
  obtain ⟨k2, n2, s2, ys⟩ := w
  replace hR : R (iD (cond c 0 (cond (k != 6 || (k2 != 6 || (xs.length : Int) != ys.length)) 3 (costAcc 0 xs ys)))) [] := hR
  refine ⟨by show 2 ≤ 60; omega, rfl, ?_⟩
  repeat' (conv => whnf
           first
           | (intro (hl : xs.length ≤ 9223372036854775807))
           | (intro (hl2 : ys.length ≤ 9223372036854775807))
           | (intro t ht; try rw [← ht] at hR
              cases t)
           | exact ⟨[], .nil, hR⟩
           | (refine ⟨[], ?_⟩
              conv => whnf
              refine g _ ?_
              cases c))
  have heq : xs.length = ys.length := by
    have ht : false = ((xs.length : Int) != ys.length) := ht
    have := ht.symm
    simp at this
    omega
  replace hR : R (iD (costAcc 0 xs ys)) [] := hR
  refine ⟨fun σ n => ∃ (i : Nat) (m : Int), i ≤ xs.length ∧ n = xs.length - i ∧ costAcc 0 xs ys = costAcc m (xs.drop i) (ys.drop i) ∧
    σ.keep [3, 5, 29, 30, 31] [.s 3] = ⟨[(3, .c (.ptr (.s 3) 0 0)), (5, iD m), (29, lD .fld xs), (30, iD xs.length), (31, iD i)], [(.s 3, some (.var (rowV (.mk k2 n2 s2 ys))))]⟩, ⟨xs.length, 0, 0, by omega, by omega, rfl, rfl⟩, ?_⟩
  rintro σ n' ⟨i, m, hi, rfl, hor, hσ⟩
  unfold vcC
  rw [hσ]
  rw [hor] at hR
  conv => whnf
  intro t (ht : t = decide ((i : Int) < xs.length))
  cases t
  · have h : ¬ (i : Int) < xs.length := of_decide_eq_false ht.symm
    have h0 : xs.drop i = [] := List.drop_eq_nil_of_le (by omega)
    have h1 : ys.drop i = [] := List.drop_eq_nil_of_le (by omega)
    rw [h0, h1] at hR
    conv => whnf
    exact ⟨[], .nil, hR⟩
  · have h : (i : Int) < xs.length := of_decide_eq_true ht.symm
    conv => whnf
    refine ⟨(⟨by omega, by omega⟩ : (0 : Int) ≤ i ∧ (i : Int) < xs.length), fun (u : ByteArray × V) (hu : xs[(i : Int).toNat]? = some u) => ?_⟩
    have hu : xs[i]? = some u := by simpa using hu
    obtain ⟨y, hy⟩ : ∃ y, ys[i]? = some y := ⟨ys[i], List.getElem?_eq_getElem (by omega)⟩
    rw [drop_cons hu, drop_cons hy, costAcc] at hR hor
    have g := h11 u.2 y.2
    obtain ⟨s1, k1, n1, t1, fs1⟩ := u
    obtain ⟨s3, k3, n3, t3, fs3⟩ := y
    conv => whnf
    refine ⟨(⟨by omega, by omega⟩ : (0 : Int) ≤ i ∧ (i : Int) < ys.length), fun (y' : ByteArray × V) (hy' : ys[(i : Int).toNat]? = some y') => ?_⟩
    obtain rfl : (s3, V.mk k3 n3 t3 fs3) = y' := by simpa [hy] using hy'
    conv => whnf
    intro t2 ht2
    have ht2 : t2 = (!(s1.toList == s3.toList)) := ht2
    rw [show ((s1, V.mk k1 n1 t1 fs1) : ByteArray × V).1 = s1 from rfl, show ((s3, V.mk k3 n3 t3 fs3) : ByteArray × V).1 = s3 from rfl, ← ht2] at hR hor
    cases t2
    rotate_left
    · exact ⟨[], .nil, hR⟩
    conv => whnf
    refine ⟨(⟨by omega, by omega⟩ : (0 : Int) ≤ i ∧ (i : Int) < ys.length), fun (y' : ByteArray × V) (hy' : ys[(i : Int).toNat]? = some y') => ?_⟩
    obtain rfl : (s3, V.mk k3 n3 t3 fs3) = y' := by simpa [hy] using hy'
    conv => whnf
    refine ⟨[], ?_⟩
    conv => whnf
    refine g _ ?_
    generalize decide (cmpV ((s1, V.mk k1 n1 t1 fs1) : ByteArray × V).2 ((s3, V.mk k3 n3 t3 fs3) : ByteArray × V).2 = 0) = q at hR hor ⊢
    cases q
    · conv => whnf
      refine ⟨xs.length - (i + 1), by omega, i + 1, IntKind.wrap .i64 (m + 1), by omega, rfl, hor, ?_⟩
      rw [← wrap_succ (show i < xs.length by omega) hl]
      rfl
    · conv => whnf
      refine ⟨xs.length - (i + 1), by omega, i + 1, m, by omega, rfl, hor, ?_⟩
      rw [← wrap_succ (show i < xs.length by omega) hl]
      rfl

end Go.Clap
