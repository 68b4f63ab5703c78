/- Contracts: a node of a value is well-formed, second part. -/
import Derived.Test.YtnielhfaioakkaaClapV4
set_option linter.unusedVariables false
set_option linter.unusedSimpArgs false
namespace Go.Clap
variable {O : Oracle TT}

def isEmptyB (s : ByteArray) : Bool := s.toList == (ByteArray.mk #[]).toList
def byteOk (c : Int) : Bool := (decide (c ≥ 97) && decide (c ≤ 122)) || ((decide (c ≥ 48) && decide (c ≤ 57)) || c == 45)
def headBad (s : ByteArray) : Bool := (s.toList == (ByteArray.mk #[]).toList) || (decide ((s.size : Int) > 16) ||
  match s.data[0]? with
  | none => false
  | some c => decide ((c.toNat : Int) < 97) || decide ((c.toNat : Int) > 122))
def bytesI (s : ByteArray) : List Int := s.data.toList.map fun b => (b.toNat : Int)
def nameB (s : ByteArray) : Bool := cond (headBad s) false ((bytesI s).all byteOk)
def namesAcc : List (ByteArray × V) → List (ByteArray × V) → Int
  | _, [] => 0
  | done, f :: rest => if nameB f.1 = false then 15 else if hasName f.1 done = true then 5 else namesAcc (done ++ [f]) rest
def leB (a b : ByteArray) : Bool := Op.bytesLess a.toList b.toList || a.toList == b.toList
def keysAcc (k : Int) : Option ByteArray → List (ByteArray × V) → Int
  | _, [] => 0
  | p, f :: rest => if (k == 8) = true then (if (!(f.1.toList == (ByteArray.mk #[]).toList)) = true then 3 else keysAcc k (some f.1) rest)
    else if (f.1.size : Int) > 4000 then 2 else if (match p with | some q => leB f.1 q | none => false) = true then 9 else keysAcc k (some f.1) rest
theorem keysAcc_nil (k : Int) (p : Option ByteArray) : keysAcc k p [] = 0 := by cases p <;> rfl
theorem keysAcc_cons (k : Int) (p : Option ByteArray) (f : ByteArray × V) (rest : List (ByteArray × V)) : keysAcc k p (f :: rest) =
    if (k == 8) = true then (if (!(f.1.toList == (ByteArray.mk #[]).toList)) = true then 3 else keysAcc k (some f.1) rest)
    else if (f.1.size : Int) > 4000 then 2 else if (match p with | some q => leB f.1 q | none => false) = true then 9 else keysAcc k (some f.1) rest := by
  cases p <;> rfl
def fieldsI : V → Int
  | .mk k n s fs => if k = 5 then (if (s.size : Int) > 4000 then 2 else 0) else if k = 6 then (if (fs.length : Int) > 24 then 2 else namesAcc [] fs)
    else if k = 7 then (if (fs.length : Int) ≠ 1 then 3 else namesAcc [] fs) else if k = 8 ∨ k = 9 then (if (fs.length : Int) > 200 then 2 else keysAcc k none fs) else 0
def badK (k : Int) (root : Bool) : Bool := decide (k < 0) || (decide (k ≥ 12) || (k == 10 || (k == 11 && !root)))
mutual
def nodeV : V → Bool → Int
  | .mk k n s fs, root => cond (badK k root || unusedB (.mk k n s fs)) 3 (cond (!numberB (.mk k n s fs)) 11 (cond (fieldsI (.mk k n s fs) != 0) (fieldsI (.mk k n s fs)) (nodeFs fs)))
def nodeFs : List (ByteArray × V) → Int
  | [] => 0
  | (_, v) :: rest => cond (nodeV v false != 0) (nodeV v false) (nodeFs rest)
end
def checkV (v : V) : Int := cond (decide (sizeV v > 2000) || decide (deepV v > 40)) 2 (nodeV v true)

theorem vc132 (s : ByteArray) (R : RR) (hR : R (bD (nameB s)) []) : vcF (S := SS) O ir132 [sD s] [] R := by
  refine ⟨by show 1 ≤ 49; omega, rfl, ?_⟩
  rw [nameB, headBad] at hR
  conv => whnf
  intro t ht
  rw [← ht] at hR
  cases t
  rotate_left
  · exact ⟨[], .nil, hR⟩
  have hpos : 0 < s.size := by
    rcases Nat.eq_zero_or_pos s.size with h | h
    · exfalso
      have h0 : s.data = #[] := Array.eq_empty_of_size_eq_zero h
      have : s.toList = (ByteArray.mk #[]).toList := by rw [ByteArray.toList_eq, ByteArray.toList_eq, h0]
      rw [this] at ht
      simp at ht
    · exact h
  obtain ⟨c, hc⟩ : ∃ c, s.data[0]? = some c := ⟨s.data[0]'hpos, Array.getElem?_eq_getElem hpos⟩
  rw [hc] at hR
  dsimp only at hR
  conv => whnf
  intro t ht2
  rw [← ht2] at hR
  cases t
  rotate_left
  · exact ⟨[], .nil, hR⟩
  have hsz : ¬ (s.size : Int) > 16 := of_decide_eq_false ht2.symm
  conv => whnf
  refine ⟨(⟨by omega, by omega⟩ : (0 : Int) ≤ 0 ∧ (0 : Int) < s.size), fun (b : UInt8) (hb : s.data[(0 : Int).toNat]? = some b) => ?_⟩
  have hbc : b = c := by
    rw [show (0 : Int).toNat = 0 from rfl, hc] at hb
    exact (Option.some.inj hb).symm
  subst hbc
  conv => whnf
  intro t ht3
  rw [← ht3] at hR
  cases t
  rotate_left
  · exact ⟨[], .nil, hR⟩
  conv => whnf
  refine ⟨(⟨by omega, by omega⟩ : (0 : Int) ≤ 0 ∧ (0 : Int) < s.size), fun (b' : UInt8) (hb' : s.data[(0 : Int).toNat]? = some b') => ?_⟩
  have hbc : b' = b := by
    rw [show (0 : Int).toNat = 0 from rfl, hc] at hb'
    exact (Option.some.inj hb').symm
  subst hbc
  conv => whnf
  intro t ht4
  rw [← ht4] at hR
  cases t
  rotate_left
  · exact ⟨[], .nil, hR⟩
  replace hR : R (bD ((bytesI s).all byteOk)) [] := hR
  conv => whnf
  refine ⟨(by omega : s.size ≤ 9223372036854775807), ?_⟩
  conv => whnf
  intro (hlen : (bytesI s).length ≤ 9223372036854775807)
  have hll : ∀ q, q = bytesI s → q.all byteOk = (bytesI s).all byteOk := by rintro q rfl; rfl
  conv => whnf
  refine ⟨fun σ n => ∃ i : Nat, i ≤ (bytesI s).length ∧ n = (bytesI s).length - i ∧ (bytesI s).all byteOk = ((bytesI s).drop i).all byteOk ∧
    σ.keep [23, 24, 25] [] = ⟨[(23, lD .u8 (bytesI s)), (24, iD (bytesI s).length), (25, iD i)], []⟩, ⟨(bytesI s).length, 0, by omega, by omega, rfl, rfl⟩, ?_⟩
  generalize bytesI s = l at hR hlen ⊢
  rintro σ n ⟨i, hi, rfl, hor, hσ⟩
  unfold vcC
  rw [hσ]
  rw [hor] at hR
  conv => whnf
  intro t (ht : t = decide ((i : Int) < l.length))
  cases t
  · have h : ¬ (i : Int) < l.length := of_decide_eq_false ht.symm
    have h0 : l.drop i = [] := List.drop_eq_nil_of_le (by omega)
    rw [h0] at hR
    exact ⟨[], .nil, hR⟩
  have h : (i : Int) < l.length := of_decide_eq_true ht.symm
  conv => whnf
  refine ⟨(⟨by omega, by omega⟩ : (0 : Int) ≤ i ∧ (i : Int) < l.length), fun (u : Int) (hu : l[(i : Int).toNat]? = some u) => ?_⟩
  have hu : l[i]? = some u := by simpa using hu
  rw [drop_cons hu, List.all_cons, byteOk] at hR hor
  have back : ∀ z : Int, z = ((i + 1 : Nat) : Int) → (⟨[(23, lD .u8 l), (24, iD l.length), (25, iD z)], []⟩ : St TT) = ⟨[(23, lD .u8 l), (24, iD l.length), (25, iD ((i + 1 : Nat) : Int))], []⟩ := by rintro z rfl; rfl
  have wi := wrap_succ (show i < l.length by omega) hlen
  repeat' (conv => whnf
           first
           | (intro t ht; rw [← ht] at hR hor
              cases t)
           | exact ⟨[], .nil, hR⟩
           | exact ⟨l.length - (i + 1), by omega, i + 1, by omega, rfl, hor, back _ wi⟩)

theorem vc128 (h132 : ∀ s, Gives O 132 [sD s] (bD (nameB s)))
    (h151 : ∀ (f : ByteArray × V) (l : List (ByteArray × V)) (R : RR), R (bD (hasName f.1 l)) (fE f) → O 151 [lD .fld l, .c (.fn 152 [.x 0])] (fE f) R)
    (l : List (ByteArray × V)) (R : RR) (hR : R (iD (namesAcc [] l)) []) : vcF (S := SS) O ir128 [lD .fld l] [] R := by
  refine ⟨by show 1 ≤ 22; omega, rfl, ?_⟩
  conv => whnf
  intro (hlen : l.length ≤ 9223372036854775807)
  conv => whnf
  refine ⟨fun σ n => ∃ i : Nat, i ≤ l.length ∧ n = l.length - i ∧ namesAcc [] l = namesAcc (l.take i) (l.drop i) ∧
    σ.keep [0, 5, 6, 7] [] = ⟨[(0, lD .fld l), (5, lD .fld l), (6, iD l.length), (7, iD i)], []⟩, ⟨l.length, 0, by omega, by omega, rfl, rfl⟩, ?_⟩
  rintro σ n ⟨i, hi, rfl, hor, hσ⟩
  unfold vcC
  rw [hσ]
  conv => whnf
  intro t (ht : t = decide ((i : Int) < l.length))
  cases t
  · have h : ¬ (i : Int) < l.length := of_decide_eq_false ht.symm
    have h0 : l.drop i = [] := List.drop_eq_nil_of_le (by omega)
    rw [hor, h0, namesAcc] at hR
    exact ⟨[], .nil, hR⟩
  · have h : (i : Int) < l.length := of_decide_eq_true ht.symm
    conv => whnf
    refine ⟨(⟨by omega, by omega⟩ : (0 : Int) ≤ i ∧ (i : Int) < l.length), fun (u : ByteArray × V) (hu : l[(i : Int).toNat]? = some u) => ?_⟩
    have hu : l[i]? = some u := by simpa using hu
    have hd := drop_cons hu
    obtain ⟨s, k, n, t, fs⟩ := u
    conv => whnf
    refine ⟨[], ?_⟩
    conv => whnf
    refine h132 _ _ ?_
    generalize hq : nameB s = q
    cases q
    · conv => whnf
      rw [hor, hd, namesAcc, if_pos hq] at hR
      exact ⟨[], .nil, hR⟩
    · conv => whnf
      refine ⟨(by omega : (0 : Int) ≤ i), ?_⟩
      conv => whnf
      refine ⟨(⟨by omega, by omega⟩ : 0 ≤ (i : Int).toNat ∧ (i : Int).toNat ≤ l.length), ?_⟩
      conv => whnf
      refine ⟨[.s 4], ?_⟩
      conv => whnf
      refine h151 (s, .mk k n t fs) _ _ ?_
      have he : (l.drop 0).take ((i : Int).toNat - 0) = l.take i := by simp
      generalize hq2 : hasName (s, V.mk k n t fs).1 _ = q
      have hq3 : hasName s (l.take i) = q := by rw [← hq2, ← he]
      clear hq2
      cases q
      · conv => whnf
        refine ⟨l.length - (i + 1), by omega, i + 1, by omega, rfl, ?_, ?_⟩
        · rw [hor, hd, namesAcc, if_neg (by rw [hq]; decide), if_neg (by rw [hq3]; decide), List.take_add_one, hu]; rfl
        · rw [← wrap_succ (show i < l.length by omega) hlen]
          rfl
      · conv => whnf
        rw [hor, hd, namesAcc, if_neg (by rw [hq]; decide), if_pos hq3] at hR
        exact ⟨[], .nil, hR⟩

theorem vc129 (v : V) (R : RR) (hR : R (iD (keysAcc v.kind none v.fs)) []) : vcF (S := SS) O ir129 [vD v] [] R := by
  obtain ⟨k, nn, ss, l⟩ := v
  refine ⟨by show 1 ≤ 47; omega, rfl, ?_⟩
  conv => whnf
  intro (hlen : l.length ≤ 9223372036854775807)
  conv => whnf
  refine ⟨fun σ n => ∃ i : Nat, i ≤ l.length ∧ n = l.length - i ∧ keysAcc k none l = keysAcc k (if i = 0 then none else (l[i - 1]?).map (·.1)) (l.drop i) ∧
    σ.keep [1, 6, 7, 8] [.s 1] = ⟨[(1, .c (.ptr (.s 1) 0 0)), (6, lD .fld l), (7, iD l.length), (8, iD i)], [(.s 1, some (.var (rowV (.mk k nn ss l))))]⟩, ⟨l.length, 0, by omega, by omega, rfl, rfl⟩, ?_⟩
  rintro σ n ⟨i, hi, rfl, hor, hσ⟩
  unfold vcC
  rw [hσ]
  conv => whnf
  intro t (ht : t = decide ((i : Int) < l.length))
  cases t
  · have h : ¬ (i : Int) < l.length := of_decide_eq_false ht.symm
    have h0 : l.drop i = [] := List.drop_eq_nil_of_le (by omega)
    rw [show (V.mk k nn ss l).kind = k from rfl, show (V.mk k nn ss l).fs = l from rfl, hor, h0, keysAcc_nil] at hR
    exact ⟨[], .nil, hR⟩
  have h : (i : Int) < l.length := of_decide_eq_true ht.symm
  conv => whnf
  refine ⟨(⟨by omega, by omega⟩ : (0 : Int) ≤ i ∧ (i : Int) < l.length), fun (u : ByteArray × V) (hu : l[(i : Int).toNat]? = some u) => ?_⟩
  have hu : l[i]? = some u := by simpa using hu
  have hd := drop_cons hu
  obtain ⟨s, k1, n1, t1, fs1⟩ := u
  rw [show (V.mk k nn ss l).kind = k from rfl, show (V.mk k nn ss l).fs = l from rfl, hor, hd, keysAcc_cons] at hR
  have next : (if i + 1 = 0 then none else (l[i + 1 - 1]?).map (·.1)) = some s := by rw [if_neg (by omega), Nat.add_sub_cancel, hu]; rfl
  conv => whnf
  intro t ht
  rw [← ht] at hR
  cases t
  · rw [if_neg (by decide)] at hR
    conv => whnf
    intro t ht2
    rw [← ht] at ht2
    subst ht2
    conv => whnf
    intro t ht2
    cases t
    rotate_left
    · rw [if_pos (of_decide_eq_true ht2.symm)] at hR
      exact ⟨[], .nil, hR⟩
    have hsz : ¬ (s.size : Int) > 4000 := of_decide_eq_false ht2.symm
    rw [if_neg hsz] at hR
    have fin : (if (match (if i = 0 then none else (l[i - 1]?).map (·.1)) with | some q => leB s q | none => false) = true then 9 else keysAcc k (some s) (l.drop (i + 1))) = keysAcc k (some s) (l.drop (i + 1)) →
        keysAcc k none l = keysAcc k (some s) (l.drop (i + 1)) := fun e => by rw [hor, hd, keysAcc_cons, ← ht, if_neg (by decide), if_neg hsz]; exact e
    conv => whnf
    intro t ht3
    cases t
    · have hi0 : i = 0 := by have := of_decide_eq_false ht3.symm; omega
      subst hi0
      refine ⟨l.length - (0 + 1), by omega, 0 + 1, by omega, rfl, ?_, ?_⟩
      · rw [next]; exact fin rfl
      · rw [← wrap_succ (show 0 < l.length by omega) hlen]
        rfl
    · have hi0 : (i : Int) > 0 := of_decide_eq_true ht3.symm
      have hw : IntKind.wrap .i64 ((i : Int) - 1) = ((i - 1 : Nat) : Int) := by rw [IntKind.wrap_i64]; omega
      obtain ⟨p, hp⟩ : ∃ p, l[i - 1]? = some p := ⟨l[i - 1], List.getElem?_eq_getElem (by omega)⟩
      conv => whnf
      refine ⟨(by rw [hw]; omega : (0 : Int) ≤ IntKind.wrap .i64 ((i : Int) - 1) ∧ IntKind.wrap .i64 ((i : Int) - 1) < l.length), fun (u : ByteArray × V) (hu2 : l[(IntKind.wrap .i64 ((i : Int) - 1)).toNat]? = some u) => ?_⟩
      have hu2 : l[i - 1]? = some u := by rw [hw] at hu2; simpa using hu2
      rw [if_neg (show ¬ i = 0 by omega), hu2] at hR fin
      obtain ⟨s2, k2, n2, t2, fs2⟩ := u
      conv => whnf
      intro t ht4
      cases t
      · refine ⟨l.length - (i + 1), by omega, i + 1, by omega, rfl, ?_, ?_⟩
        · rw [next]; exact fin (if_neg (by show ¬ leB s s2 = true; rw [leB, ← ht4]; decide))
        · rw [← wrap_succ (show i < l.length by omega) hlen]
          rfl
      · have hR2 : R (iD (if leB s s2 = true then 9 else keysAcc k (some s) (l.drop (i + 1)))) [] := hR
        rw [leB, ← ht4, if_pos rfl] at hR2
        exact ⟨[], .nil, hR2⟩
  · rw [if_pos rfl] at hR
    conv => whnf
    intro t ht2
    rw [← ht2] at hR
    cases t
    · conv => whnf
      intro t ht3
      rw [← ht] at ht3
      subst ht3
      conv => whnf
      refine ⟨l.length - (i + 1), by omega, i + 1, by omega, rfl, ?_, ?_⟩
      · rw [next, hor, hd, keysAcc_cons, ← ht, if_pos rfl, ← ht2, if_neg (by decide)]
      · rw [← wrap_succ (show i < l.length by omega) hlen]
        rfl
    · rw [if_pos rfl] at hR
      exact ⟨[], .nil, hR⟩

theorem vc101 (h128 : ∀ l, Gives O 128 [lD .fld l] (iD (namesAcc [] l))) (h129 : ∀ v : V, Gives O 129 [vD v] (iD (keysAcc v.kind none v.fs))) (v : V) (R : RR) (hR : R (iD (fieldsI v)) []) :
    vcF (S := SS) O ir101 [vD v] [] R := by
  obtain ⟨k, n, s, fs⟩ := v
  refine ⟨by show 1 ≤ 38; omega, rfl, ?_⟩
  conv => whnf
  intro t ht
  cases t
  rotate_left
  · have hk : k = 5 := by simpa using ht
    rw [fieldsI, if_pos hk] at hR
    conv => whnf
    intro t ht
    cases t
    · rw [if_neg (of_decide_eq_false ht.symm)] at hR
      exact ⟨[], .nil, hR⟩
    · rw [if_pos (of_decide_eq_true ht.symm)] at hR
      exact ⟨[], .nil, hR⟩
  have h5 : ¬ k = 5 := by simpa using ht
  rw [fieldsI, if_neg h5] at hR
  conv => whnf
  intro t ht
  cases t
  rotate_left
  · have hk : k = 6 := by simpa using ht
    rw [if_pos hk] at hR
    conv => whnf
    intro (hl : fs.length ≤ 9223372036854775807)
    conv => whnf
    intro t ht
    cases t
    · rw [if_neg (of_decide_eq_false ht.symm)] at hR
      conv => whnf
      refine ⟨[], ?_⟩
      conv => whnf
      refine h128 _ _ ?_
      exact ⟨[], .nil, hR⟩
    · rw [if_pos (of_decide_eq_true ht.symm)] at hR
      exact ⟨[], .nil, hR⟩
  have h6 : ¬ k = 6 := by simpa using ht
  rw [if_neg h6] at hR
  conv => whnf
  intro t ht
  cases t
  rotate_left
  · have hk : k = 7 := by simpa using ht
    rw [if_pos hk] at hR
    conv => whnf
    intro (hl : fs.length ≤ 9223372036854775807)
    conv => whnf
    intro t ht
    cases t
    · have : ¬ (fs.length : Int) ≠ 1 := by simpa using ht
      rw [if_neg this] at hR
      conv => whnf
      refine ⟨[], ?_⟩
      conv => whnf
      refine h128 _ _ ?_
      exact ⟨[], .nil, hR⟩
    · have : (fs.length : Int) ≠ 1 := by simpa using ht
      rw [if_pos this] at hR
      exact ⟨[], .nil, hR⟩
  have h7 : ¬ k = 7 := by simpa using ht
  rw [if_neg h7] at hR
  have body : ∀ (hk : k = 8 ∨ k = 9), R (iD (if (fs.length : Int) > 200 then 2 else keysAcc k none fs)) [] := fun hk => by rwa [if_pos hk] at hR
  conv => whnf
  intro t ht
  cases t
  rotate_left
  · have hR' := body (.inl (by simpa using ht))
    conv => whnf
    intro (hl : fs.length ≤ 9223372036854775807)
    conv => whnf
    intro t ht
    cases t
    · rw [if_neg (of_decide_eq_false ht.symm)] at hR'
      conv => whnf
      refine ⟨[], ?_⟩
      conv => whnf
      refine h129 (.mk k n s fs) _ ?_
      exact ⟨[], .nil, hR'⟩
    · rw [if_pos (of_decide_eq_true ht.symm)] at hR'
      exact ⟨[], .nil, hR'⟩
  have h8 : ¬ k = 8 := by simpa using ht
  conv => whnf
  intro t ht
  cases t
  rotate_left
  · have hR' := body (.inr (by simpa using ht))
    conv => whnf
    intro (hl : fs.length ≤ 9223372036854775807)
    conv => whnf
    intro t ht
    cases t
    · rw [if_neg (of_decide_eq_false ht.symm)] at hR'
      conv => whnf
      refine ⟨[], ?_⟩
      conv => whnf
      refine h129 (.mk k n s fs) _ ?_
      exact ⟨[], .nil, hR'⟩
    · rw [if_pos (of_decide_eq_true ht.symm)] at hR'
      exact ⟨[], .nil, hR'⟩
  have h9 : ¬ k = 9 := by simpa using ht
  rw [if_neg (by omega)] at hR
  exact ⟨[], .nil, hR⟩

end Go.Clap
