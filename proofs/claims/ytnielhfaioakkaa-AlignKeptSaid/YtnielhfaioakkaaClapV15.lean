/- Contracts: alignment by a key. -/
import Derived.Test.YtnielhfaioakkaaClapV14
import Derived.Test.YtnielhfaioakkaaClapV11
set_option linter.unusedVariables false
set_option linter.unusedSimpArgs false
namespace Go.Clap
variable {O : Oracle TT}

/-- The first element that is not used and has the key. -/
def findI (ky : ByteArray × V → V) (x : V) : List Bool → FL → Nat → Option Nat
  | u :: us, f :: fs, i => cond (!u && decide (cmpV x (ky f) = 0)) (some i) (findI ky x us fs (i + 1))
  | _, _, _ => none
def byK (ky : ByteArray × V → V) (A : FL) : List Bool → FL → Nat → PL
  | _, [], _ => []
  | us, g :: gs, k => match findI ky (ky g) us A 0 with
    | some i => ((i : Int), (k : Int)) :: byK ky A (us.set i true) gs (k + 1)
    | none => byK ky A us gs (k + 1)

theorem findI_nil (ky : ByteArray × V → V) (x : V) (i : Nat) : findI ky x [] [] i = none := by unfold findI; rfl
theorem findI_lt (ky : ByteArray × V → V) (x : V) : ∀ (us : List Bool) (fs : FL) (i j : Nat), findI ky x us fs i = some j → i ≤ j ∧ j < i + us.length
  | u :: us, f :: fs, i, j, h => by
    rw [findI] at h
    cases hc : (!u && decide (cmpV x (ky f) = 0)) with
    | true => rw [hc] at h; simp at h; simp; omega
    | false =>
      rw [hc] at h
      have := findI_lt ky x us fs (i + 1) j h
      simp; omega
  | [], _, _, _, h => by simp [findI] at h
  | _ :: _, [], _, _, h => by simp [findI] at h

set_option maxHeartbeats 4000000 in
theorem vc16 (a b : V) (nm : ByteArray) (ky : ByteArray × V → V) (h31 : Gives O 31 [vD a, vD b] (iD 0))
    (h35 : ∀ f, f ∈ a.fs ∨ f ∈ b.fs → f.2.kind = 6 ∧ Gives O 35 [vD f.2, sD nm] (.tup [vD (ky f), bD true]))
    (h11 : ∀ a b, Gives O 11 [vD a, vD b] (bD (decide (cmpV a b = 0)))) (hla : a.fs.length ≤ 200) (hlb : b.fs.length ≤ 200)
    (R : RR) (hR : R (.tup [lD .pair (byK ky a.fs (List.replicate a.fs.length false) b.fs 0), iD 0]) []) :
    vcF (S := SS) O ir16 [vD a, vD b, sD nm] [] R := by
  obtain ⟨vs, hvs⟩ : ∃ vs, vs = [a, b] := ⟨_, rfl⟩
  have hvl : vs.length = 2 := by rw [hvs]; rfl
  have hvf : ∀ v ∈ vs, ∀ f ∈ v.fs, f.2.kind = 6 ∧ Gives O 35 [vD f.2, sD nm] (.tup [vD (ky f), bD true]) := by
    intro v hv f hf
    rw [hvs] at hv
    simp at hv
    rcases hv with rfl | rfl
    · exact h35 f (.inl hf)
    · exact h35 f (.inr hf)
  have hvn : ∀ v ∈ vs, v.fs.length ≤ 200 := by
    intro v hv
    rw [hvs] at hv
    simp at hv
    rcases hv with rfl | rfl
    · exact hla
    · exact hlb
  obtain ⟨k1, n1, s1, A⟩ := a
  obtain ⟨k2, n2, s2, B⟩ := b
  replace hla : A.length ≤ 200 := hla
  replace hlb : B.length ≤ 200 := hlb
  replace hR : R (.tup [lD .pair (byK ky A (List.replicate A.length false) B 0), iD 0]) [] := hR
  have hA : ∀ f ∈ A, Gives O 35 [vD f.2, sD nm] (.tup [vD (ky f), bD true]) := fun f hf => (h35 f (.inl hf)).2
  have hB : ∀ f ∈ B, Gives O 35 [vD f.2, sD nm] (.tup [vD (ky f), bD true]) := fun f hf => (h35 f (.inr hf)).2
  refine ⟨by show 3 ≤ 117; omega, rfl, ?_⟩
  conv => whnf
  refine ⟨[], ?_⟩
  conv => whnf
  refine h31 _ ?_
  conv => whnf
  intro t ht
  obtain rfl : t = false := ht
  conv => whnf
  intro _
  conv => whnf
  refine ⟨fun σ n => ∃ i : Nat, i ≤ 2 ∧ n = 2 - i ∧ σ.keep [2, 3, 4, 33, 34, 35] [.s 3, .s 4] =
    ⟨[(2, sD nm), (3, .c (.ptr (.s 3) 0 0)), (4, .c (.ptr (.s 4) 0 0)), (33, lD .val vs), (34, iD 2), (35, iD i)], [(.s 3, some (.var (rowV (.mk k1 n1 s1 A)))), (.s 4, some (.var (rowV (.mk k2 n2 s2 B))))]⟩,
    ⟨2, 0, by omega, by omega, by rw [hvs]; rfl⟩, ?_⟩
  rintro σ n ⟨i, hi, rfl, hσ⟩
  unfold vcC
  rw [hσ]
  conv => whnf
  intro t (ht : t = decide ((i : Int) < 2))
  cases t
  rotate_left
  · have h : (i : Int) < 2 := of_decide_eq_true ht.symm
    have back : ∀ (z : Int), z = ((i + 1 : Nat) : Int) →
      (⟨[(2, sD nm), (3, .c (.ptr (.s 3) 0 0)), (4, .c (.ptr (.s 4) 0 0)), (33, lD .val vs), (34, iD 2), (35, iD z)], [(.s 3, some (.var (rowV (.mk k1 n1 s1 A)))), (.s 4, some (.var (rowV (.mk k2 n2 s2 B))))]⟩ : St TT) =
      ⟨[(2, sD nm), (3, .c (.ptr (.s 3) 0 0)), (4, .c (.ptr (.s 4) 0 0)), (33, lD .val vs), (34, iD 2), (35, iD ((i + 1 : Nat) : Int))], [(.s 3, some (.var (rowV (.mk k1 n1 s1 A)))), (.s 4, some (.var (rowV (.mk k2 n2 s2 B))))]⟩ := by
      rintro _ rfl; rfl
    conv => whnf
    refine ⟨(⟨by omega, by omega⟩ : (0 : Int) ≤ i ∧ (i : Int) < vs.length), fun (u : V) (hu : vs[(i : Int).toNat]? = some u) => ?_⟩
    have hu : vs[i]? = some u := by simpa using hu
    have hf := hvf u (List.mem_of_getElem? hu)
    have hn := hvn u (List.mem_of_getElem? hu)
    obtain ⟨k', n', t', l⟩ := u
    replace hf : ∀ f ∈ l, f.2.kind = 6 ∧ Gives O 35 [vD f.2, sD nm] (.tup [vD (ky f), bD true]) := hf
    replace hn : l.length ≤ 200 := hn
    conv => whnf
    intro _
    conv => whnf
    refine ⟨fun σ n => ∃ j : Nat, j ≤ l.length ∧ n = l.length - j ∧ σ.keep [2, 3, 4, 33, 34, 35, 40, 41, 42] [.s 3, .s 4] =
      ⟨[(2, sD nm), (3, .c (.ptr (.s 3) 0 0)), (4, .c (.ptr (.s 4) 0 0)), (33, lD .val vs), (34, iD 2), (35, iD i), (40, lD .fld l), (41, iD l.length), (42, iD j)], [(.s 3, some (.var (rowV (.mk k1 n1 s1 A)))), (.s 4, some (.var (rowV (.mk k2 n2 s2 B))))]⟩,
      ⟨l.length, 0, by omega, by omega, rfl⟩, ?_⟩
    rintro σ n ⟨j, hj, rfl, hσ⟩
    unfold vcC
    rw [hσ]
    conv => whnf
    intro t (ht : t = decide ((j : Int) < l.length))
    cases t
    · conv => whnf
      exact ⟨2 - (i + 1), by omega, i + 1, by omega, rfl, back _ (wrapS _ (by omega) (by omega))⟩
    have h2 : (j : Int) < l.length := of_decide_eq_true ht.symm
    have back2 : ∀ (z : Int), z = ((j + 1 : Nat) : Int) →
      (⟨[(2, sD nm), (3, .c (.ptr (.s 3) 0 0)), (4, .c (.ptr (.s 4) 0 0)), (33, lD .val vs), (34, iD 2), (35, iD i), (40, lD .fld l), (41, iD l.length), (42, iD z)], [(.s 3, some (.var (rowV (.mk k1 n1 s1 A)))), (.s 4, some (.var (rowV (.mk k2 n2 s2 B))))]⟩ : St TT) =
      ⟨[(2, sD nm), (3, .c (.ptr (.s 3) 0 0)), (4, .c (.ptr (.s 4) 0 0)), (33, lD .val vs), (34, iD 2), (35, iD i), (40, lD .fld l), (41, iD l.length), (42, iD ((j + 1 : Nat) : Int))], [(.s 3, some (.var (rowV (.mk k1 n1 s1 A)))), (.s 4, some (.var (rowV (.mk k2 n2 s2 B))))]⟩ := by
      rintro _ rfl; rfl
    conv => whnf
    refine ⟨(⟨by omega, by omega⟩ : (0 : Int) ≤ j ∧ (j : Int) < l.length), fun (y : ByteArray × V) (hy : l[(j : Int).toNat]? = some y) => ?_⟩
    have hy : l[j]? = some y := by simpa using hy
    obtain ⟨hk6, hg⟩ := hf y (List.mem_of_getElem? hy)
    generalize ky y = kv at hg
    obtain ⟨s3, k3, n3, t3, f3⟩ := y
    obtain ⟨k4, n4, t4, f4⟩ := kv
    obtain rfl : k3 = 6 := hk6
    conv => whnf
    intro t ht
    obtain rfl : t = false := ht
    conv => whnf
    refine ⟨[], ?_⟩
    conv => whnf
    refine hg _ ?_
    conv => whnf
    exact ⟨l.length - (j + 1), by omega, j + 1, by omega, rfl, back2 _ (wrapS _ (by omega) (by omega))⟩
  clear ht
  conv => whnf
  intro _
  conv => whnf
  refine ⟨(⟨by omega, by omega⟩ : (0 : Int) ≤ (A.length : Int) ∧ (A.length : Int) ≤ (68719476736 : Nat)), ?_⟩
  conv => whnf
  intro _
  conv => whnf
  refine ⟨fun σ n => ∃ (k : Nat) (us : List Bool) (out : PL), k ≤ B.length ∧ n = B.length - k ∧ us.length = A.length ∧ out.length ≤ k ∧
      out ++ byK ky A us (B.drop k) k = byK ky A (List.replicate A.length false) B 0 ∧ σ.keep [2, 3, 15, 16, 66, 67, 68] [.s 3, .s 64, .sub (.s 16) 16] =
    ⟨[(2, sD nm), (3, .c (.ptr (.s 3) 0 0)), (15, .c (.osl (.s 64) 0 A.length)), (16, .c (.osl (.sub (.s 16) 16) 0 out.length)), (66, lD .fld B), (67, iD B.length), (68, iD k)],
     [(.s 3, some (.var (rowV (.mk k1 n1 s1 A)))), (.s 64, some (.row false .bool us)), (.sub (.s 16) 16, some (.row false .pair out))]⟩,
    ⟨B.length, 0, List.replicate A.length false, [], by omega, by omega, by simp, by simp, rfl, rfl⟩, ?_⟩
  rintro σ n ⟨k, us, out, hk, rfl, hus, hol, hor, hσ⟩
  unfold vcC
  rw [hσ]
  conv => whnf
  intro t (ht : t = decide ((k : Int) < B.length))
  cases t
  · have h0 : B.drop k = [] := List.drop_eq_nil_of_le (by have := of_decide_eq_false ht.symm; omega)
    rw [h0, byK, List.append_nil] at hor
    conv => whnf
    refine ⟨(by omega : 0 + out.length ≤ out.length), ?_⟩
    conv => whnf
    have key : ∀ X : PL, X = byK ky A (List.replicate A.length false) B 0 → R (.tup [lD .pair X, iD 0]) [] := by rintro _ rfl; exact hR
    exact ⟨[], .nil, key _ (by rw [List.drop_zero, List.take_length, hor])⟩
  have h : (k : Int) < B.length := of_decide_eq_true ht.symm
  have back : ∀ (us : List Bool) (out : PL) (len : Nat) (z : Int), len = out.length → z = ((k + 1 : Nat) : Int) →
    (⟨[(2, sD nm), (3, .c (.ptr (.s 3) 0 0)), (15, .c (.osl (.s 64) 0 A.length)), (16, .c (.osl (.sub (.s 16) 16) 0 len)), (66, lD .fld B), (67, iD B.length), (68, iD z)],
     [(.s 3, some (.var (rowV (.mk k1 n1 s1 A)))), (.s 64, some (.row false .bool us)), (.sub (.s 16) 16, some (.row false .pair out))]⟩ : St TT) =
    ⟨[(2, sD nm), (3, .c (.ptr (.s 3) 0 0)), (15, .c (.osl (.s 64) 0 A.length)), (16, .c (.osl (.sub (.s 16) 16) 0 out.length)), (66, lD .fld B), (67, iD B.length), (68, iD ((k + 1 : Nat) : Int))],
     [(.s 3, some (.var (rowV (.mk k1 n1 s1 A)))), (.s 64, some (.row false .bool us)), (.sub (.s 16) 16, some (.row false .pair out))]⟩ := by
    rintro _ _ _ _ rfl rfl; rfl
  have wk : IntKind.wrap .i64 ((k : Int) + 1) = ((k + 1 : Nat) : Int) := wrapS _ (by omega) (by omega)
  conv => whnf
  refine ⟨(⟨by omega, by omega⟩ : (0 : Int) ≤ k ∧ (k : Int) < B.length), fun (y : ByteArray × V) (hy : B[(k : Int).toNat]? = some y) => ?_⟩
  have hy : B[k]? = some y := by simpa using hy
  have hg := hB y (List.mem_of_getElem? hy)
  rw [drop_cons hy, byK] at hor
  generalize hkx : ky y = x at hg hor
  obtain ⟨s3, k3, n3, t3, f3⟩ := y
  obtain ⟨k4, n4, t4, f4⟩ := x
  clear hkx
  conv => whnf
  refine ⟨[], ?_⟩
  conv => whnf
  refine hg _ ?_
  conv => whnf
  intro _
  conv => whnf
  refine ⟨fun σ n => ∃ j : Nat, j ≤ A.length ∧ n = A.length - j ∧ findI ky (.mk k4 n4 t4 f4) us A 0 = findI ky (.mk k4 n4 t4 f4) (us.drop j) (A.drop j) j ∧
    σ.keep [2, 3, 15, 16, 17, 19, 66, 67, 68, 81, 82, 83] [.s 3, .s 19, .s 64, .sub (.s 16) 16] =
    ⟨[(2, sD nm), (3, .c (.ptr (.s 3) 0 0)), (15, .c (.osl (.s 64) 0 A.length)), (16, .c (.osl (.sub (.s 16) 16) 0 out.length)), (17, iD k), (19, .c (.ptr (.s 19) 0 0)), (66, lD .fld B), (67, iD B.length), (68, iD k), (81, lD .fld A), (82, iD A.length), (83, iD j)],
     [(.s 3, some (.var (rowV (.mk k1 n1 s1 A)))), (.s 19, some (.var (rowV (.mk k4 n4 t4 f4)))), (.s 64, some (.row false .bool us)), (.sub (.s 16) 16, some (.row false .pair out))]⟩,
    ⟨A.length, 0, by omega, by omega, rfl, rfl⟩, ?_⟩
  rintro σ n ⟨j, hj, rfl, hfi, hσ⟩
  unfold vcC
  rw [hσ]
  conv => whnf
  intro t (ht : t = decide ((j : Int) < A.length))
  cases t
  · have h0 : A.drop j = [] := List.drop_eq_nil_of_le (by have := of_decide_eq_false ht.symm; omega)
    have h1 : us.drop j = [] := List.drop_eq_nil_of_le (by have := of_decide_eq_false ht.symm; omega)
    rw [h0, h1, findI_nil] at hfi
    rw [hfi] at hor
    conv => whnf
    exact ⟨B.length - (k + 1), by omega, k + 1, us, out, by omega, rfl, hus, by omega, hor, back _ _ _ _ rfl wk⟩
  have h2 : (j : Int) < A.length := of_decide_eq_true ht.symm
  have back2 : ∀ z : Int, z = ((j + 1 : Nat) : Int) →
    (⟨[(2, sD nm), (3, .c (.ptr (.s 3) 0 0)), (15, .c (.osl (.s 64) 0 A.length)), (16, .c (.osl (.sub (.s 16) 16) 0 out.length)), (17, iD k), (19, .c (.ptr (.s 19) 0 0)), (66, lD .fld B), (67, iD B.length), (68, iD k), (81, lD .fld A), (82, iD A.length), (83, iD z)],
     [(.s 3, some (.var (rowV (.mk k1 n1 s1 A)))), (.s 19, some (.var (rowV (.mk k4 n4 t4 f4)))), (.s 64, some (.row false .bool us)), (.sub (.s 16) 16, some (.row false .pair out))]⟩ : St TT) =
    ⟨[(2, sD nm), (3, .c (.ptr (.s 3) 0 0)), (15, .c (.osl (.s 64) 0 A.length)), (16, .c (.osl (.sub (.s 16) 16) 0 out.length)), (17, iD k), (19, .c (.ptr (.s 19) 0 0)), (66, lD .fld B), (67, iD B.length), (68, iD k), (81, lD .fld A), (82, iD A.length), (83, iD ((j + 1 : Nat) : Int))],
     [(.s 3, some (.var (rowV (.mk k1 n1 s1 A)))), (.s 19, some (.var (rowV (.mk k4 n4 t4 f4)))), (.s 64, some (.row false .bool us)), (.sub (.s 16) 16, some (.row false .pair out))]⟩ := by
    rintro _ rfl; rfl
  have wj : IntKind.wrap .i64 ((j : Int) + 1) = ((j + 1 : Nat) : Int) := wrapS _ (by omega) (by omega)
  obtain ⟨u, hu⟩ : ∃ u, us[j]? = some u := ⟨us[j], List.getElem?_eq_getElem (by omega)⟩
  have h0j : 0 + (j : Int).toNat = j := by simp
  conv => whnf
  refine ⟨(⟨by omega, by omega⟩ : (0 : Int) ≤ j ∧ (j : Int) < A.length), fun (z : ByteArray × V) (hz : A[(j : Int).toNat]? = some z) => ?_⟩
  have hz : A[j]? = some z := by simpa using hz
  have hg2 := hA z (List.mem_of_getElem? hz)
  have hud : us.drop j = u :: us.drop (j + 1) := by
    obtain ⟨q1, q2⟩ := List.getElem?_eq_some_iff.1 hu
    rw [List.drop_eq_getElem_cons q1, q2]
  rw [drop_cons hz, hud, findI] at hfi
  have g11 := h11 (.mk k4 n4 t4 f4) (ky z)
  generalize decide (cmpV (.mk k4 n4 t4 f4) (ky z) = 0) = q at g11 hfi
  generalize ky z = x at hg2 g11
  obtain ⟨s5, k5, n5, t5, f5⟩ := z
  obtain ⟨k6, n6, t6, f6⟩ := x
  conv => whnf
  refine ⟨[], ?_⟩
  conv => whnf
  refine hg2 _ ?_
  conv => whnf
  refine ⟨(⟨by omega, by omega⟩ : (0 : Int) ≤ j ∧ (j : Int) < (A.length : Int)), ?_⟩
  conv => whnf
  refine ⟨(by omega : 0 + (j : Int).toNat < us.length), fun (u' : Bool) (hu' : us[0 + (j : Int).toNat]? = some u') => ?_⟩
  rw [h0j, hu] at hu'
  obtain rfl := Option.some.inj hu'
  cases u
  rotate_left
  · conv => whnf
    exact ⟨A.length - (j + 1), by omega, j + 1, by omega, rfl, hfi, back2 _ wj⟩
  conv => whnf
  refine ⟨[], ?_⟩
  conv => whnf
  refine g11 _ ?_
  cases q
  · conv => whnf
    exact ⟨A.length - (j + 1), by omega, j + 1, by omega, rfl, hfi, back2 _ wj⟩
  replace hfi : findI ky (.mk k4 n4 t4 f4) us A 0 = some j := hfi
  rw [hfi] at hor
  conv => whnf
  refine ⟨(⟨by omega, by omega⟩ : (0 : Int) ≤ j ∧ (j : Int) < (A.length : Int)), ?_⟩
  conv => whnf
  refine ⟨(by omega : 0 + (j : Int).toNat < us.length), fun (u' : Bool) _ => ⟨true, rfl, ?_⟩⟩
  conv => whnf
  refine ⟨rfl, rfl, ?_⟩
  conv => whnf
  refine ⟨rfl, ?_⟩
  conv => whnf
  refine ⟨(by omega : out.length + 1 ≤ 68719476736), ?_⟩
  conv => whnf
  have key : ∀ e : Nat, e = j → ∃ n', n' < B.length - k ∧ ∃ (k' : Nat) (us' : List Bool) (out' : PL), k' ≤ B.length ∧ n' = B.length - k' ∧ us'.length = A.length ∧ out'.length ≤ k' ∧
      out' ++ byK ky A us' (B.drop k') k' = byK ky A (List.replicate A.length false) B 0 ∧ (k' = k + 1 ∧ us' = us.set e true ∧ out' = out ++ [((j : Int), (k : Int))]) := by
    intro e he
    rw [he]
    exact ⟨B.length - (k + 1), by omega, k + 1, us.set j true, out ++ [((j : Int), (k : Int))], by omega, rfl, by simpa using hus, by simp; omega, by rw [List.append_assoc]; exact hor, rfl, rfl, rfl⟩
  obtain ⟨n', hn', k', us', out', p1, p2, p3, p4, p5, rfl, rfl, rfl⟩ := key _ h0j
  exact ⟨n', hn', k + 1, _, _, p1, p2, p3, p4, p5, back _ _ _ _ (by simp) wk⟩

end Go.Clap
