/- Contracts: copies of values; the value of a field. -/
import Derived.Test.YtnielhfaioakkaaGreatClapI4
import Derived.Test.YtnielhfaioakkaaGreatClapV11
set_option linter.unusedVariables false
set_option linter.unusedSimpArgs false
namespace Go.Clap
variable {O : Oracle TT}

-- No list of fields is too long to be copied.
mutual
def smallV : V → Prop
  | .mk _ _ _ fs => fs.length ≤ 68719476736 ∧ smallFs fs
def smallFs : List (ByteArray × V) → Prop
  | [] => True
  | (_, v) :: r => smallV v ∧ smallFs r
end
theorem smallFs_mem : ∀ {l : FL} {f : ByteArray × V}, smallFs l → f ∈ l → smallV f.2
  | [], f, _, h => by cases h
  | (s, v) :: r, f, hs, h => by
    rw [smallFs] at hs
    rcases List.mem_cons.1 h with rfl | h
    · exact hs.1
    · exact smallFs_mem hs.2 h

def Own79 (O : Oracle TT) : Prop := ∀ (l : FL) (R : RR), l.length ≤ 68719476736 → (l = [] → R (.c .nils) []) → R (.c (.osl (.x 0) 0 l.length)) [(.x 0, some (.row false .fld l))] → O 79 [lD .fld l] [] R

theorem vc79 (l : FL) (R : RR) (hl : l.length ≤ 68719476736) (h1 : l = [] → R (.c .nils) []) (h2 : R (.c (.osl (.x 0) 0 l.length)) [(.x 0, some (.row false .fld l))]) :
    vcF (S := SS) O ir79 [lD .fld l] [] R := by
  refine ⟨by show 1 ≤ 8; omega, rfl, ?_⟩
  have key : ∀ (q : FL) (n : Nat), q = l → n = l.length → R (.c (.osl (.x 0) 0 n)) [(.x 0, some (.row false .fld q))] := by rintro _ _ rfl rfl; exact h2
  conv => whnf
  intro t (ht : l ≠ [] → t = false)
  cases t
  · conv => whnf
    refine ⟨rfl, rfl, ?_⟩
    conv => whnf
    refine ⟨rfl, ?_⟩
    conv => whnf
    refine ⟨(by simpa using hl : ([] : FL).length + l.length ≤ 68719476736), ?_⟩
    conv => whnf
    exact ⟨[.s 7], (by decide : (lX 0 ++ [Id.s 7]).Nodup), key _ _ (List.nil_append l) (by simp)⟩
  · have hn : l = [] := by
      rcases Classical.em (l = []) with h | h
      · exact h
      · cases ht h
    exact ⟨[], .nil, h1 hn⟩

theorem set_self {α : Type} {l : List α} {i : Nat} {x : α} (h : l[i]? = some x) : l.set i x = l := by
  apply List.ext_getElem?
  intro j
  rw [List.getElem?_set]
  split
  · rename_i e
    subst e
    have := (List.getElem?_eq_some_iff.1 h).1
    rw [if_pos this, h]
  · rfl

theorem vc57 (h79 : Own79 O) (v : V) (hv : smallV v) (h57 : ∀ x ∈ v.fs, Gives O 57 [vD x.2] (vD x.2)) (R : RR) (hR : R (vD v) []) : vcF (S := SS) O ir57 [vD v] [] R := by
  obtain ⟨k, n, s, fs⟩ := v
  rw [smallV] at hv
  replace h57 : ∀ x ∈ fs, Gives O 57 [vD x.2] (vD x.2) := h57
  refine ⟨by show 1 ≤ 28; omega, rfl, ?_⟩
  have back : ∀ (l : FL) (i : Nat) (len : Nat) (z zl : Int), l = fs → len = fs.length → z = (i : Int) → zl = fs.length →
      (⟨[(1, .c (.ptr (.s 1) 0 0)), (2, .c (.ptr (.s 2) 0 0)), (10, iD zl), (11, iD z)], [(.s 1, some (.var [.int .i64 k, .int .i64 n, .str s, .osl (.sub (.s 1) 3) 0 len])), (.s 2, some (.var [.int .i64 0, .int .i64 0, .str ⟨#[]⟩, .isl .fld []])), (.sub (.s 1) 3, some (.row false .fld l))]⟩ : St TT) =
      ⟨[(1, .c (.ptr (.s 1) 0 0)), (2, .c (.ptr (.s 2) 0 0)), (10, iD fs.length), (11, iD i)], [(.s 1, some (.var [.int .i64 k, .int .i64 n, .str s, .osl (.sub (.s 1) 3) 0 fs.length])), (.s 2, some (.var [.int .i64 0, .int .i64 0, .str ⟨#[]⟩, .isl .fld []])), (.sub (.s 1) 3, some (.row false .fld fs))]⟩ := by
    rintro _ _ _ _ _ rfl rfl rfl rfl; rfl
  conv => whnf
  refine ⟨[], ?_⟩
  conv => whnf
  refine h79 fs _ hv.1 ?_ ?_
  · intro hnil
    conv => whnf
    intro _
    conv => whnf
    refine ⟨fun σ m => ∃ i : Nat, i ≤ fs.length ∧ m = fs.length - i ∧ σ.keep [1, 2, 10, 11] [.s 1, .s 2, .sub (.s 1) 3] =
      ⟨[(1, .c (.ptr (.s 1) 0 0)), (2, .c (.ptr (.s 2) 0 0)), (10, iD fs.length), (11, iD i)], [(.s 1, some (.var [.int .i64 k, .int .i64 n, .str s, .osl (.sub (.s 1) 3) 0 fs.length])), (.s 2, some (.var [.int .i64 0, .int .i64 0, .str ⟨#[]⟩, .isl .fld []])), (.sub (.s 1) 3, some (.row false .fld fs))]⟩,
      ⟨fs.length, 0, by omega, by omega, back _ _ _ _ _ hnil.symm (by rw [hnil]; rfl) rfl (by rw [hnil]; rfl)⟩, ?_⟩
    rintro σ m ⟨i, hi, rfl, hσ⟩
    unfold vcC
    rw [hσ]
    conv => whnf
    intro t (ht : t = decide ((i : Int) < fs.length))
    have hf : fs.length = 0 := by rw [hnil]; rfl
    have ht : t = false := by rw [ht]; exact decide_eq_false (by omega)
    subst ht
    conv => whnf
    refine ⟨(by omega : 0 + fs.length ≤ fs.length), ?_⟩
    conv => whnf
    have key : ∀ X : FL, X = fs → R (vD (.mk k n s X)) [] := by rintro _ rfl; exact hR
    exact ⟨[], .nil, key _ (by simp)⟩
  · conv => whnf
    intro (hlen : fs.length ≤ 9223372036854775807)
    conv => whnf
    refine ⟨fun σ m => ∃ i : Nat, i ≤ fs.length ∧ m = fs.length - i ∧ σ.keep [1, 2, 10, 11] [.s 1, .s 2, .sub (.s 1) 3] =
      ⟨[(1, .c (.ptr (.s 1) 0 0)), (2, .c (.ptr (.s 2) 0 0)), (10, iD fs.length), (11, iD i)], [(.s 1, some (.var [.int .i64 k, .int .i64 n, .str s, .osl (.sub (.s 1) 3) 0 fs.length])), (.s 2, some (.var [.int .i64 0, .int .i64 0, .str ⟨#[]⟩, .isl .fld []])), (.sub (.s 1) 3, some (.row false .fld fs))]⟩,
      ⟨fs.length, 0, by omega, by omega, back _ _ _ _ _ rfl rfl rfl rfl⟩, ?_⟩
    rintro σ m ⟨i, hi, rfl, hσ⟩
    unfold vcC
    rw [hσ]
    conv => whnf
    intro t (ht : t = decide ((i : Int) < fs.length))
    cases t
    · conv => whnf
      refine ⟨(by omega : 0 + fs.length ≤ fs.length), ?_⟩
      conv => whnf
      have key : ∀ X : FL, X = fs → R (vD (.mk k n s X)) [] := by rintro _ rfl; exact hR
      exact ⟨[], .nil, key _ (by simp)⟩
    have h : (i : Int) < fs.length := of_decide_eq_true ht.symm
    obtain ⟨x, hx⟩ : ∃ x, fs[i]? = some x := ⟨fs[i], List.getElem?_eq_getElem (by omega)⟩
    have hm := h57 x (List.mem_of_getElem? hx)
    have h0i : 0 + (i : Int).toNat = i := by simp
    conv => whnf
    refine ⟨(⟨by omega, by omega⟩ : (0 : Int) ≤ i ∧ (i : Int) < fs.length), ?_⟩
    conv => whnf
    refine ⟨(by omega : 0 + (i : Int).toNat < fs.length), fun (y : ByteArray × V) (hy : fs[0 + (i : Int).toNat]? = some y) => ?_⟩
    rw [h0i, hx] at hy
    obtain rfl := Option.some.inj hy
    obtain ⟨s', k', n', t', fs'⟩ := x
    conv => whnf
    refine ⟨[], ?_⟩
    conv => whnf
    refine hm _ ?_
    conv => whnf
    refine ⟨(⟨by omega, by omega⟩ : (0 : Int) ≤ i ∧ (i : Int) < fs.length), ?_⟩
    conv => whnf
    refine ⟨(by omega : 0 + (i : Int).toNat < fs.length), fun (y : ByteArray × V) (hy : fs[0 + (i : Int).toNat]? = some y) => ?_⟩
    rw [h0i, hx] at hy
    obtain rfl := Option.some.inj hy
    conv => whnf
    refine ⟨(s', .mk k' n' t' fs'), rfl, ?_⟩
    conv => whnf
    exact ⟨fs.length - (i + 1), by omega, i + 1, by omega, rfl, back _ _ _ _ _ (by rw [h0i]; exact set_self hx) rfl (wrap_succ (show i < fs.length by omega) hlen) rfl⟩

/-- The first field with a name, of what is no list. -/
def getF (k : Int) (nm : ByteArray) : FL → Option V
  | [] => none
  | f :: r => cond ((f.1.toList == nm.toList) && (k != 8)) (some f.2) (getF k nm r)
def zeroV : V := .mk 0 0 ⟨#[]⟩ []
def getD (v : V) (nm : ByteArray) : D TT := match getF v.kind nm v.fs with
  | some w => .tup [vD w, bD true]
  | none => .tup [vD zeroV, bD false]

theorem vc35 (v : V) (nm : ByteArray) (h57 : ∀ x ∈ v.fs, Gives O 57 [vD x.2] (vD x.2)) (R : RR) (hR : R (getD v nm) []) : vcF (S := SS) O ir35 [vD v, sD nm] [] R := by
  obtain ⟨k, n, s, fs⟩ := v
  replace h57 : ∀ x ∈ fs, Gives O 57 [vD x.2] (vD x.2) := h57
  replace hR : R (match getF k nm fs with | some w => .tup [vD w, bD true] | none => .tup [vD zeroV, bD false]) [] := hR
  refine ⟨by show 2 ≤ 29; omega, rfl, ?_⟩
  conv => whnf
  intro (hlen : fs.length ≤ 9223372036854775807)
  conv => whnf
  refine ⟨fun σ m => ∃ i : Nat, i ≤ fs.length ∧ m = fs.length - i ∧ getF k nm fs = getF k nm (fs.drop i) ∧ σ.keep [1, 2, 4, 9, 10, 11] [.s 2, .s 4] =
    ⟨[(1, sD nm), (2, .c (.ptr (.s 2) 0 0)), (4, .c (.ptr (.s 4) 0 0)), (9, lD .fld fs), (10, iD fs.length), (11, iD i)], [(.s 2, some (.var (rowV (.mk k n s fs)))), (.s 4, some (.var [.int .i64 0, .int .i64 0, .str ⟨#[]⟩, .isl .fld []]))]⟩,
    ⟨fs.length, 0, by omega, by omega, rfl, rfl⟩, ?_⟩
  rintro σ m ⟨i, hi, rfl, hor, hσ⟩
  unfold vcC
  rw [hσ]
  rw [hor] at hR
  conv => whnf
  intro t (ht : t = decide ((i : Int) < fs.length))
  cases t
  · have h0 : fs.drop i = [] := List.drop_eq_nil_of_le (by have := of_decide_eq_false ht.symm; omega)
    rw [h0, getF] at hR
    exact ⟨[], .nil, hR⟩
  have h : (i : Int) < fs.length := of_decide_eq_true ht.symm
  have back : ∀ (z : Int), z = ((i + 1 : Nat) : Int) →
    (⟨[(1, sD nm), (2, .c (.ptr (.s 2) 0 0)), (4, .c (.ptr (.s 4) 0 0)), (9, lD .fld fs), (10, iD fs.length), (11, iD z)], [(.s 2, some (.var (rowV (.mk k n s fs)))), (.s 4, some (.var [.int .i64 0, .int .i64 0, .str ⟨#[]⟩, .isl .fld []]))]⟩ : St TT) =
    ⟨[(1, sD nm), (2, .c (.ptr (.s 2) 0 0)), (4, .c (.ptr (.s 4) 0 0)), (9, lD .fld fs), (10, iD fs.length), (11, iD ((i + 1 : Nat) : Int))], [(.s 2, some (.var (rowV (.mk k n s fs)))), (.s 4, some (.var [.int .i64 0, .int .i64 0, .str ⟨#[]⟩, .isl .fld []]))]⟩ := by
    rintro _ rfl; rfl
  have wi := wrap_succ (show i < fs.length by omega) hlen
  conv => whnf
  refine ⟨(⟨by omega, by omega⟩ : (0 : Int) ≤ i ∧ (i : Int) < fs.length), fun (y : ByteArray × V) (hy : fs[(i : Int).toNat]? = some y) => ?_⟩
  have hy : fs[i]? = some y := by simpa using hy
  have hm := h57 y (List.mem_of_getElem? hy)
  rw [drop_cons hy, getF] at hor hR
  obtain ⟨s', k', n', t', fs'⟩ := y
  dsimp only at hor hR
  conv => whnf
  intro t ht1
  rw [← ht1] at hor hR
  cases t
  · exact ⟨fs.length - (i + 1), by omega, i + 1, by omega, rfl, hor, back _ wi⟩
  conv => whnf
  intro t ht2
  rw [← ht2] at hor hR
  cases t
  · exact ⟨fs.length - (i + 1), by omega, i + 1, by omega, rfl, hor, back _ wi⟩
  conv => whnf
  refine ⟨[], ?_⟩
  conv => whnf
  refine hm _ ?_
  conv => whnf
  exact ⟨[], .nil, hR⟩

end Go.Clap

set_option linter.unusedVariables false
set_option linter.unusedSimpArgs false
namespace Go.Clap
variable {O : Oracle TT}

/-- The first element that is not used and has the key. -/
def findI (ky : ByteArray × V → V) (x : V) : List Bool → FL → Nat → Option Nat
  | u :: us, f :: fs, i => cond (!u && decide (cmpV x (ky f) = 0)) (some i) (findI ky x us fs (i + 1))
  | _, _, _ => none
def byK (ky : ByteArray × V → V) (A : FL) : List Bool → FL → Nat → PL
  | _, [], _ => []
  | us, g :: gs, k => match findI ky (ky g) us A 0 with
    | some i => ((i : Int), (k : Int)) :: byK ky A (us.set i true) gs (k + 1)
    | none => byK ky A us gs (k + 1)

theorem findI_nil (ky : ByteArray × V → V) (x : V) (i : Nat) : findI ky x [] [] i = none := by unfold findI; rfl
theorem findI_lt (ky : ByteArray × V → V) (x : V) : ∀ (us : List Bool) (fs : FL) (i j : Nat), findI ky x us fs i = some j → i ≤ j ∧ j < i + us.length
  | u :: us, f :: fs, i, j, h => by
    rw [findI] at h
    cases hc : (!u && decide (cmpV x (ky f) = 0)) with
    | true => rw [hc] at h; simp at h; simp; omega
    | false =>
      rw [hc] at h
      have := findI_lt ky x us fs (i + 1) j h
      simp; omega
  | [], _, _, _, h => by simp [findI] at h
  | _ :: _, [], _, _, h => by simp [findI] at h

set_option maxHeartbeats 4000000 in
theorem vc16 (a b : V) (nm : ByteArray) (ky : ByteArray × V → V) (h31 : Gives O 31 [vD a, vD b] (iD 0))
    (h35 : ∀ f, f ∈ a.fs ∨ f ∈ b.fs → f.2.kind = 6 ∧ Gives O 35 [vD f.2, sD nm] (.tup [vD (ky f), bD true]))
    (h11 : ∀ a b, Gives O 11 [vD a, vD b] (bD (decide (cmpV a b = 0)))) (hla : a.fs.length ≤ 200) (hlb : b.fs.length ≤ 200)
    (R : RR) (hR : R (.tup [lD .pair (byK ky a.fs (List.replicate a.fs.length false) b.fs 0), iD 0]) []) :
    vcF (S := SS) O ir16 [vD a, vD b, sD nm] [] R := by
  obtain ⟨vs, hvs⟩ : ∃ vs, vs = [a, b] := ⟨_, rfl⟩
  have hvl : vs.length = 2 := by rw [hvs]; rfl
  have hvf : ∀ v ∈ vs, ∀ f ∈ v.fs, f.2.kind = 6 ∧ Gives O 35 [vD f.2, sD nm] (.tup [vD (ky f), bD true]) := by
    intro v hv f hf
    rw [hvs] at hv
    simp at hv
    rcases hv with rfl | rfl
    · exact h35 f (.inl hf)
    · exact h35 f (.inr hf)
  have hvn : ∀ v ∈ vs, v.fs.length ≤ 200 := by
    intro v hv
    rw [hvs] at hv
    simp at hv
    rcases hv with rfl | rfl
    · exact hla
    · exact hlb
  obtain ⟨k1, n1, s1, A⟩ := a
  obtain ⟨k2, n2, s2, B⟩ := b
  replace hla : A.length ≤ 200 := hla
  replace hlb : B.length ≤ 200 := hlb
  replace hR : R (.tup [lD .pair (byK ky A (List.replicate A.length false) B 0), iD 0]) [] := hR
  have hA : ∀ f ∈ A, Gives O 35 [vD f.2, sD nm] (.tup [vD (ky f), bD true]) := fun f hf => (h35 f (.inl hf)).2
  have hB : ∀ f ∈ B, Gives O 35 [vD f.2, sD nm] (.tup [vD (ky f), bD true]) := fun f hf => (h35 f (.inr hf)).2
  refine ⟨by show 3 ≤ 117; omega, rfl, ?_⟩
  conv => whnf
  refine ⟨[], ?_⟩
  conv => whnf
  refine h31 _ ?_
  conv => whnf
  intro t ht
  obtain rfl : t = false := ht
  conv => whnf
  intro _
  conv => whnf
  refine ⟨fun σ n => ∃ i : Nat, i ≤ 2 ∧ n = 2 - i ∧ σ.keep [2, 3, 4, 33, 34, 35] [.s 3, .s 4] =
    ⟨[(2, sD nm), (3, .c (.ptr (.s 3) 0 0)), (4, .c (.ptr (.s 4) 0 0)), (33, lD .val vs), (34, iD 2), (35, iD i)], [(.s 3, some (.var (rowV (.mk k1 n1 s1 A)))), (.s 4, some (.var (rowV (.mk k2 n2 s2 B))))]⟩,
    ⟨2, 0, by omega, by omega, by rw [hvs]; rfl⟩, ?_⟩
  rintro σ n ⟨i, hi, rfl, hσ⟩
  unfold vcC
  rw [hσ]
  conv => whnf
  intro t (ht : t = decide ((i : Int) < 2))
  cases t
  rotate_left
  · have h : (i : Int) < 2 := of_decide_eq_true ht.symm
    have back : ∀ (z : Int), z = ((i + 1 : Nat) : Int) →
      (⟨[(2, sD nm), (3, .c (.ptr (.s 3) 0 0)), (4, .c (.ptr (.s 4) 0 0)), (33, lD .val vs), (34, iD 2), (35, iD z)], [(.s 3, some (.var (rowV (.mk k1 n1 s1 A)))), (.s 4, some (.var (rowV (.mk k2 n2 s2 B))))]⟩ : St TT) =
      ⟨[(2, sD nm), (3, .c (.ptr (.s 3) 0 0)), (4, .c (.ptr (.s 4) 0 0)), (33, lD .val vs), (34, iD 2), (35, iD ((i + 1 : Nat) : Int))], [(.s 3, some (.var (rowV (.mk k1 n1 s1 A)))), (.s 4, some (.var (rowV (.mk k2 n2 s2 B))))]⟩ := by
      rintro _ rfl; rfl
    conv => whnf
    refine ⟨(⟨by omega, by omega⟩ : (0 : Int) ≤ i ∧ (i : Int) < vs.length), fun (u : V) (hu : vs[(i : Int).toNat]? = some u) => ?_⟩
    have hu : vs[i]? = some u := by simpa using hu
    have hf := hvf u (List.mem_of_getElem? hu)
    have hn := hvn u (List.mem_of_getElem? hu)
    obtain ⟨k', n', t', l⟩ := u
    replace hf : ∀ f ∈ l, f.2.kind = 6 ∧ Gives O 35 [vD f.2, sD nm] (.tup [vD (ky f), bD true]) := hf
    replace hn : l.length ≤ 200 := hn
    conv => whnf
    intro _
    conv => whnf
    refine ⟨fun σ n => ∃ j : Nat, j ≤ l.length ∧ n = l.length - j ∧ σ.keep [2, 3, 4, 33, 34, 35, 40, 41, 42] [.s 3, .s 4] =
      ⟨[(2, sD nm), (3, .c (.ptr (.s 3) 0 0)), (4, .c (.ptr (.s 4) 0 0)), (33, lD .val vs), (34, iD 2), (35, iD i), (40, lD .fld l), (41, iD l.length), (42, iD j)], [(.s 3, some (.var (rowV (.mk k1 n1 s1 A)))), (.s 4, some (.var (rowV (.mk k2 n2 s2 B))))]⟩,
      ⟨l.length, 0, by omega, by omega, rfl⟩, ?_⟩
    rintro σ n ⟨j, hj, rfl, hσ⟩
    unfold vcC
    rw [hσ]
    conv => whnf
    intro t (ht : t = decide ((j : Int) < l.length))
    cases t
    · conv => whnf
      exact ⟨2 - (i + 1), by omega, i + 1, by omega, rfl, back _ (wrapS _ (by omega) (by omega))⟩
    have h2 : (j : Int) < l.length := of_decide_eq_true ht.symm
    have back2 : ∀ (z : Int), z = ((j + 1 : Nat) : Int) →
      (⟨[(2, sD nm), (3, .c (.ptr (.s 3) 0 0)), (4, .c (.ptr (.s 4) 0 0)), (33, lD .val vs), (34, iD 2), (35, iD i), (40, lD .fld l), (41, iD l.length), (42, iD z)], [(.s 3, some (.var (rowV (.mk k1 n1 s1 A)))), (.s 4, some (.var (rowV (.mk k2 n2 s2 B))))]⟩ : St TT) =
      ⟨[(2, sD nm), (3, .c (.ptr (.s 3) 0 0)), (4, .c (.ptr (.s 4) 0 0)), (33, lD .val vs), (34, iD 2), (35, iD i), (40, lD .fld l), (41, iD l.length), (42, iD ((j + 1 : Nat) : Int))], [(.s 3, some (.var (rowV (.mk k1 n1 s1 A)))), (.s 4, some (.var (rowV (.mk k2 n2 s2 B))))]⟩ := by
      rintro _ rfl; rfl
    conv => whnf
    refine ⟨(⟨by omega, by omega⟩ : (0 : Int) ≤ j ∧ (j : Int) < l.length), fun (y : ByteArray × V) (hy : l[(j : Int).toNat]? = some y) => ?_⟩
    have hy : l[j]? = some y := by simpa using hy
    obtain ⟨hk6, hg⟩ := hf y (List.mem_of_getElem? hy)
    generalize ky y = kv at hg
    obtain ⟨s3, k3, n3, t3, f3⟩ := y
    obtain ⟨k4, n4, t4, f4⟩ := kv
    obtain rfl : k3 = 6 := hk6
    conv => whnf
    intro t ht
    obtain rfl : t = false := ht
    conv => whnf
    refine ⟨[], ?_⟩
    conv => whnf
    refine hg _ ?_
    conv => whnf
    exact ⟨l.length - (j + 1), by omega, j + 1, by omega, rfl, back2 _ (wrapS _ (by omega) (by omega))⟩
  clear ht
  conv => whnf
  intro _
  conv => whnf
  refine ⟨(⟨by omega, by omega⟩ : (0 : Int) ≤ (A.length : Int) ∧ (A.length : Int) ≤ (68719476736 : Nat)), ?_⟩
  conv => whnf
  intro _
  conv => whnf
  refine ⟨fun σ n => ∃ (k : Nat) (us : List Bool) (out : PL), k ≤ B.length ∧ n = B.length - k ∧ us.length = A.length ∧ out.length ≤ k ∧
      out ++ byK ky A us (B.drop k) k = byK ky A (List.replicate A.length false) B 0 ∧ σ.keep [2, 3, 15, 16, 66, 67, 68] [.s 3, .s 64, .sub (.s 16) 16] =
    ⟨[(2, sD nm), (3, .c (.ptr (.s 3) 0 0)), (15, .c (.osl (.s 64) 0 A.length)), (16, .c (.osl (.sub (.s 16) 16) 0 out.length)), (66, lD .fld B), (67, iD B.length), (68, iD k)],
     [(.s 3, some (.var (rowV (.mk k1 n1 s1 A)))), (.s 64, some (.row false .bool us)), (.sub (.s 16) 16, some (.row false .pair out))]⟩,
    ⟨B.length, 0, List.replicate A.length false, [], by omega, by omega, by simp, by simp, rfl, rfl⟩, ?_⟩
  rintro σ n ⟨k, us, out, hk, rfl, hus, hol, hor, hσ⟩
  unfold vcC
  rw [hσ]
  conv => whnf
  intro t (ht : t = decide ((k : Int) < B.length))
  cases t
  · have h0 : B.drop k = [] := List.drop_eq_nil_of_le (by have := of_decide_eq_false ht.symm; omega)
    rw [h0, byK, List.append_nil] at hor
    conv => whnf
    refine ⟨(by omega : 0 + out.length ≤ out.length), ?_⟩
    conv => whnf
    have key : ∀ X : PL, X = byK ky A (List.replicate A.length false) B 0 → R (.tup [lD .pair X, iD 0]) [] := by rintro _ rfl; exact hR
    exact ⟨[], .nil, key _ (by rw [List.drop_zero, List.take_length, hor])⟩
  have h : (k : Int) < B.length := of_decide_eq_true ht.symm
  have back : ∀ (us : List Bool) (out : PL) (len : Nat) (z : Int), len = out.length → z = ((k + 1 : Nat) : Int) →
    (⟨[(2, sD nm), (3, .c (.ptr (.s 3) 0 0)), (15, .c (.osl (.s 64) 0 A.length)), (16, .c (.osl (.sub (.s 16) 16) 0 len)), (66, lD .fld B), (67, iD B.length), (68, iD z)],
     [(.s 3, some (.var (rowV (.mk k1 n1 s1 A)))), (.s 64, some (.row false .bool us)), (.sub (.s 16) 16, some (.row false .pair out))]⟩ : St TT) =
    ⟨[(2, sD nm), (3, .c (.ptr (.s 3) 0 0)), (15, .c (.osl (.s 64) 0 A.length)), (16, .c (.osl (.sub (.s 16) 16) 0 out.length)), (66, lD .fld B), (67, iD B.length), (68, iD ((k + 1 : Nat) : Int))],
     [(.s 3, some (.var (rowV (.mk k1 n1 s1 A)))), (.s 64, some (.row false .bool us)), (.sub (.s 16) 16, some (.row false .pair out))]⟩ := by
    rintro _ _ _ _ rfl rfl; rfl
  have wk : IntKind.wrap .i64 ((k : Int) + 1) = ((k + 1 : Nat) : Int) := wrapS _ (by omega) (by omega)
  conv => whnf
  refine ⟨(⟨by omega, by omega⟩ : (0 : Int) ≤ k ∧ (k : Int) < B.length), fun (y : ByteArray × V) (hy : B[(k : Int).toNat]? = some y) => ?_⟩
  have hy : B[k]? = some y := by simpa using hy
  have hg := hB y (List.mem_of_getElem? hy)
  rw [drop_cons hy, byK] at hor
  generalize hkx : ky y = x at hg hor
  obtain ⟨s3, k3, n3, t3, f3⟩ := y
  obtain ⟨k4, n4, t4, f4⟩ := x
  clear hkx
  conv => whnf
  refine ⟨[], ?_⟩
  conv => whnf
  refine hg _ ?_
  conv => whnf
  intro _
  conv => whnf
  refine ⟨fun σ n => ∃ j : Nat, j ≤ A.length ∧ n = A.length - j ∧ findI ky (.mk k4 n4 t4 f4) us A 0 = findI ky (.mk k4 n4 t4 f4) (us.drop j) (A.drop j) j ∧
    σ.keep [2, 3, 15, 16, 17, 19, 66, 67, 68, 81, 82, 83] [.s 3, .s 19, .s 64, .sub (.s 16) 16] =
    ⟨[(2, sD nm), (3, .c (.ptr (.s 3) 0 0)), (15, .c (.osl (.s 64) 0 A.length)), (16, .c (.osl (.sub (.s 16) 16) 0 out.length)), (17, iD k), (19, .c (.ptr (.s 19) 0 0)), (66, lD .fld B), (67, iD B.length), (68, iD k), (81, lD .fld A), (82, iD A.length), (83, iD j)],
     [(.s 3, some (.var (rowV (.mk k1 n1 s1 A)))), (.s 19, some (.var (rowV (.mk k4 n4 t4 f4)))), (.s 64, some (.row false .bool us)), (.sub (.s 16) 16, some (.row false .pair out))]⟩,
    ⟨A.length, 0, by omega, by omega, rfl, rfl⟩, ?_⟩
  rintro σ n ⟨j, hj, rfl, hfi, hσ⟩
  unfold vcC
  rw [hσ]
  conv => whnf
  intro t (ht : t = decide ((j : Int) < A.length))
  cases t
  · have h0 : A.drop j = [] := List.drop_eq_nil_of_le (by have := of_decide_eq_false ht.symm; omega)
    have h1 : us.drop j = [] := List.drop_eq_nil_of_le (by have := of_decide_eq_false ht.symm; omega)
    rw [h0, h1, findI_nil] at hfi
    rw [hfi] at hor
    conv => whnf
    exact ⟨B.length - (k + 1), by omega, k + 1, us, out, by omega, rfl, hus, by omega, hor, back _ _ _ _ rfl wk⟩
  have h2 : (j : Int) < A.length := of_decide_eq_true ht.symm
  have back2 : ∀ z : Int, z = ((j + 1 : Nat) : Int) →
    (⟨[(2, sD nm), (3, .c (.ptr (.s 3) 0 0)), (15, .c (.osl (.s 64) 0 A.length)), (16, .c (.osl (.sub (.s 16) 16) 0 out.length)), (17, iD k), (19, .c (.ptr (.s 19) 0 0)), (66, lD .fld B), (67, iD B.length), (68, iD k), (81, lD .fld A), (82, iD A.length), (83, iD z)],
     [(.s 3, some (.var (rowV (.mk k1 n1 s1 A)))), (.s 19, some (.var (rowV (.mk k4 n4 t4 f4)))), (.s 64, some (.row false .bool us)), (.sub (.s 16) 16, some (.row false .pair out))]⟩ : St TT) =
    ⟨[(2, sD nm), (3, .c (.ptr (.s 3) 0 0)), (15, .c (.osl (.s 64) 0 A.length)), (16, .c (.osl (.sub (.s 16) 16) 0 out.length)), (17, iD k), (19, .c (.ptr (.s 19) 0 0)), (66, lD .fld B), (67, iD B.length), (68, iD k), (81, lD .fld A), (82, iD A.length), (83, iD ((j + 1 : Nat) : Int))],
     [(.s 3, some (.var (rowV (.mk k1 n1 s1 A)))), (.s 19, some (.var (rowV (.mk k4 n4 t4 f4)))), (.s 64, some (.row false .bool us)), (.sub (.s 16) 16, some (.row false .pair out))]⟩ := by
    rintro _ rfl; rfl
  have wj : IntKind.wrap .i64 ((j : Int) + 1) = ((j + 1 : Nat) : Int) := wrapS _ (by omega) (by omega)
  obtain ⟨u, hu⟩ : ∃ u, us[j]? = some u := ⟨us[j], List.getElem?_eq_getElem (by omega)⟩
  have h0j : 0 + (j : Int).toNat = j := by simp
  conv => whnf
  refine ⟨(⟨by omega, by omega⟩ : (0 : Int) ≤ j ∧ (j : Int) < A.length), fun (z : ByteArray × V) (hz : A[(j : Int).toNat]? = some z) => ?_⟩
  have hz : A[j]? = some z := by simpa using hz
  have hg2 := hA z (List.mem_of_getElem? hz)
  have hud : us.drop j = u :: us.drop (j + 1) := by
    obtain ⟨q1, q2⟩ := List.getElem?_eq_some_iff.1 hu
    rw [List.drop_eq_getElem_cons q1, q2]
  rw [drop_cons hz, hud, findI] at hfi
  have g11 := h11 (.mk k4 n4 t4 f4) (ky z)
  generalize decide (cmpV (.mk k4 n4 t4 f4) (ky z) = 0) = q at g11 hfi
  generalize ky z = x at hg2 g11
  obtain ⟨s5, k5, n5, t5, f5⟩ := z
  obtain ⟨k6, n6, t6, f6⟩ := x
  conv => whnf
  refine ⟨[], ?_⟩
  conv => whnf
  refine hg2 _ ?_
  conv => whnf
  refine ⟨(⟨by omega, by omega⟩ : (0 : Int) ≤ j ∧ (j : Int) < (A.length : Int)), ?_⟩
  conv => whnf
  refine ⟨(by omega : 0 + (j : Int).toNat < us.length), fun (u' : Bool) (hu' : us[0 + (j : Int).toNat]? = some u') => ?_⟩
  rw [h0j, hu] at hu'
  obtain rfl := Option.some.inj hu'
  cases u
  rotate_left
  · conv => whnf
    exact ⟨A.length - (j + 1), by omega, j + 1, by omega, rfl, hfi, back2 _ wj⟩
  conv => whnf
  refine ⟨[], ?_⟩
  conv => whnf
  refine g11 _ ?_
  cases q
  · conv => whnf
    exact ⟨A.length - (j + 1), by omega, j + 1, by omega, rfl, hfi, back2 _ wj⟩
  replace hfi : findI ky (.mk k4 n4 t4 f4) us A 0 = some j := hfi
  rw [hfi] at hor
  conv => whnf
  refine ⟨(⟨by omega, by omega⟩ : (0 : Int) ≤ j ∧ (j : Int) < (A.length : Int)), ?_⟩
  conv => whnf
  refine ⟨(by omega : 0 + (j : Int).toNat < us.length), fun (u' : Bool) _ => ⟨true, rfl, ?_⟩⟩
  conv => whnf
  refine ⟨rfl, rfl, ?_⟩
  conv => whnf
  refine ⟨rfl, ?_⟩
  conv => whnf
  refine ⟨(by omega : out.length + 1 ≤ 68719476736), ?_⟩
  conv => whnf
  have key : ∀ e : Nat, e = j → ∃ n', n' < B.length - k ∧ ∃ (k' : Nat) (us' : List Bool) (out' : PL), k' ≤ B.length ∧ n' = B.length - k' ∧ us'.length = A.length ∧ out'.length ≤ k' ∧
      out' ++ byK ky A us' (B.drop k') k' = byK ky A (List.replicate A.length false) B 0 ∧ (k' = k + 1 ∧ us' = us.set e true ∧ out' = out ++ [((j : Int), (k : Int))]) := by
    intro e he
    rw [he]
    exact ⟨B.length - (k + 1), by omega, k + 1, us.set j true, out ++ [((j : Int), (k : Int))], by omega, rfl, by simpa using hus, by simp; omega, by rw [List.append_assoc]; exact hor, rfl, rfl, rfl⟩
  obtain ⟨n', hn', k', us', out', p1, p2, p3, p4, p5, rfl, rfl, rfl⟩ := key _ h0j
  exact ⟨n', hn', k + 1, _, _, p1, p2, p3, p4, p5, back _ _ _ _ (by simp) wk⟩

end Go.Clap

set_option linter.unusedVariables false
set_option linter.unusedSimpArgs false
namespace Go.Clap
variable {O : Oracle TT}

abbrev pD (p : Int × Int) : D TT := .agg [.int .i64 p.1, .int .i64 p.2]
theorem nd0 (i : Id) : (lX 0 ++ [i]).Nodup := by simp [lX]

theorem vc37 (h38 : ∀ a b, Gives O 38 [iD a, iD b] (iD (cmpI a b))) (p q : Int × Int) (R : RR) (hR : R (iD (cmpI p.2 q.2)) []) : vcF (S := SS) O ir37 [pD p, pD q] [] R := by
  obtain ⟨a, b⟩ := p
  obtain ⟨c, d⟩ := q
  refine ⟨by show 2 ≤ 10; omega, rfl, ?_⟩
  conv => whnf
  refine ⟨[], ?_⟩
  conv => whnf
  refine h38 _ _ _ ?_
  conv => whnf
  exact ⟨[], .nil, hR⟩

def SortedP (l : PL) : Prop := l.Pairwise fun p q => p.2 ≤ q.2
theorem cmpI_lt (a b : Int) : decide (cmpI a b < 0) = decide (a < b) := by
  unfold cmpI
  split
  · rename_i h; simp [h]
  · rename_i h; split <;> simp [h]

theorem swap_at (p : PL) (y x : Int × Int) (t : PL) : ((p ++ [y] ++ x :: t).set (p.length + 1) y).set p.length x = p ++ x :: y :: t := by
  rw [List.append_assoc, List.set_append_right _ _ (by omega), Nat.add_sub_cancel_left]
  simp

set_option maxHeartbeats 2000000 in
theorem vc80 (h37 : ∀ p q : Int × Int, Gives O 37 [pD p, pD q] (iD (cmpI p.2 q.2))) (l : PL) (hl : l.length ≤ 1000) (R : RR)
    (hR : ∀ l' : PL, l'.Perm l → SortedP l' → R (.tup []) [(.x 0, some (.row false .pair l'))]) :
    vcF (S := SS) O ir80 [.c (.osl (.x 0) 0 l.length), iD 0, iD l.length, .c (.fn 37 [])] [(.x 0, some (.row false .pair l))] R := by
  refine ⟨by show 4 ≤ 53; omega, rfl, ?_⟩
  conv => whnf
  refine ⟨fun σ n => ∃ (i : Nat) (xs : PL), 1 ≤ i ∧ n = l.length + 1 - i ∧ xs.Perm l ∧ SortedP (xs.take i) ∧ σ.keep [0, 1, 2, 3, 8] [.x 0] =
    ⟨[(0, .c (.osl (.x 0) 0 l.length)), (1, iD 0), (2, iD l.length), (3, .c (.fn 37 [])), (8, iD i)], [(.x 0, some (.row false .pair xs))]⟩,
    ⟨l.length, 1, l, by omega, by omega, List.Perm.refl _, ?_, rfl⟩, ?_⟩
  · cases l with
    | nil => exact .nil
    | cons a l => simp [SortedP]
  rintro σ n ⟨i, xs, hi, rfl, hp, hs, hσ⟩
  have hxl : xs.length = l.length := hp.length_eq
  unfold vcC
  rw [hσ]
  conv => whnf
  intro t (ht : t = decide ((i : Int) < l.length))
  cases t
  · have h : ¬ (i : Int) < l.length := of_decide_eq_false ht.symm
    rw [List.take_of_length_le (by omega)] at hs
    exact ⟨[], nd1, hR xs hp hs⟩
  have h : (i : Int) < l.length := of_decide_eq_true ht.symm
  have back : ∀ (xs : PL) (z : Int), z = ((i + 1 : Nat) : Int) →
    (⟨[(0, .c (.osl (.x 0) 0 l.length)), (1, iD 0), (2, iD l.length), (3, .c (.fn 37 [])), (8, iD z)], [(.x 0, some (.row false .pair xs))]⟩ : St TT) =
    ⟨[(0, .c (.osl (.x 0) 0 l.length)), (1, iD 0), (2, iD l.length), (3, .c (.fn 37 [])), (8, iD ((i + 1 : Nat) : Int))], [(.x 0, some (.row false .pair xs))]⟩ := by rintro _ _ rfl; rfl
  have wi : IntKind.wrap .i64 ((i : Int) + 1) = ((i + 1 : Nat) : Int) := wrapS _ (by omega) (by omega)
  conv => whnf
  refine ⟨fun σ n => ∃ (p : PL) (x : Int × Int) (s r : PL), n = p.length ∧ p.length + s.length = i ∧ (p ++ x :: (s ++ r)).Perm l ∧ SortedP (p ++ s) ∧ (∀ z ∈ s, x.2 < z.2) ∧
    σ.keep [0, 1, 2, 3, 8, 9] [.x 0] = ⟨[(0, .c (.osl (.x 0) 0 l.length)), (1, iD 0), (2, iD l.length), (3, .c (.fn 37 [])), (8, iD i), (9, iD p.length)], [(.x 0, some (.row false .pair (p ++ x :: (s ++ r))))]⟩, ?_, ?_⟩
  · obtain ⟨x, hx⟩ : ∃ x, xs[i]? = some x := ⟨xs[i], List.getElem?_eq_getElem (by omega)⟩
    have e : xs.take i ++ x :: xs.drop (i + 1) = xs := by
      obtain ⟨h1, h2⟩ := List.getElem?_eq_some_iff.1 hx
      rw [← h2, ← List.drop_eq_getElem_cons h1, List.take_append_drop]
    have hlen : (xs.take i).length = i := by simp; omega
    have key : ∀ (q : PL) (z : Nat), q = xs → z = i →
      (⟨[(0, .c (.osl (.x 0) 0 l.length)), (1, iD 0), (2, iD l.length), (3, .c (.fn 37 [])), (8, iD i), (9, iD i)], [(.x 0, some (.row false .pair xs))]⟩ : St TT) =
      ⟨[(0, .c (.osl (.x 0) 0 l.length)), (1, iD 0), (2, iD l.length), (3, .c (.fn 37 [])), (8, iD i), (9, iD z)], [(.x 0, some (.row false .pair q))]⟩ := by rintro _ _ rfl rfl; rfl
    exact ⟨i, xs.take i, x, [], xs.drop (i + 1), by omega, by simp; omega, by simpa [e] using hp, by simpa using hs, fun z hz => (by cases hz), key _ _ (by simpa using e) hlen⟩
  rintro σ n ⟨p, x, s, r, rfl, hps, hperm, hsort, hlt, hσ⟩
  have hlen : (p ++ x :: (s ++ r)).length = l.length := hperm.length_eq
  simp only [List.length_append, List.length_cons] at hlen
  unfold vcC
  rw [hσ]
  -- the round is over
  have over : SortedP (p ++ x :: s) → ∃ n', n' < l.length + 1 - i ∧ ∃ (i' : Nat) (xs' : PL), 1 ≤ i' ∧ n' = l.length + 1 - i' ∧ xs'.Perm l ∧ SortedP (xs'.take i') ∧ (i' = i + 1 ∧ xs' = p ++ x :: (s ++ r)) := by
    intro hso
    refine ⟨l.length + 1 - (i + 1), by omega, i + 1, _, by omega, rfl, hperm, ?_, rfl, rfl⟩
    have : (p ++ x :: (s ++ r)).take (i + 1) = p ++ x :: s := by
      rw [show p ++ x :: (s ++ r) = (p ++ x :: s) ++ r by simp, List.take_left' (by simp; omega)]
    rw [this]
    exact hso
  conv => whnf
  intro t (ht : t = decide ((p.length : Int) > 0))
  cases t
  · have hp0 : p = [] := by
      have := of_decide_eq_false ht.symm
      cases p with
      | nil => rfl
      | cons a p => simp at this
    subst hp0
    obtain ⟨n', q1, i', xs', q2, q3, q4, q5, rfl, rfl⟩ := over (List.Pairwise.cons (fun z hz => Int.le_of_lt (hlt z hz)) hsort)
    conv => whnf
    exact ⟨n', q1, i + 1, _, q2, q3, q4, q5, back _ _ wi⟩
  have hpos : 0 < p.length := by have := of_decide_eq_true ht.symm; omega
  obtain ⟨p', y, rfl⟩ : ∃ p' y, p = p' ++ [y] := by
    refine ⟨p.dropLast, p.getLast (by rintro rfl; simp at hpos), (List.dropLast_concat_getLast _).symm⟩
  have hpl : (p' ++ [y]).length = p'.length + 1 := by simp
  have wj : IntKind.wrap .i64 (((p' ++ [y]).length : Int) - 1) = (p'.length : Int) := by rw [wrapS _ (by omega) (by omega)]; omega
  have ej : 0 + ((p' ++ [y]).length : Int).toNat = p'.length + 1 := by omega
  have ej1 : 0 + (IntKind.wrap .i64 (((p' ++ [y]).length : Int) - 1)).toNat = p'.length := by rw [wj]; omega
  have gx : (p' ++ [y] ++ x :: (s ++ r))[p'.length + 1]? = some x := by
    rw [List.getElem?_append_right (by omega), hpl, Nat.sub_self]; rfl
  have gy : (p' ++ [y] ++ x :: (s ++ r))[p'.length]? = some y := by
    rw [List.append_assoc, List.getElem?_append_right (by omega), Nat.sub_self]; rfl
  have hfl : (p' ++ [y] ++ x :: (s ++ r)).length = l.length := hperm.length_eq
  have b1 : (0 : Int) ≤ ((p' ++ [y]).length : Int) ∧ ((p' ++ [y]).length : Int) < (l.length : Int) := ⟨by omega, by omega⟩
  have b2 : (0 : Int) ≤ IntKind.wrap .i64 (((p' ++ [y]).length : Int) - 1) ∧ IntKind.wrap .i64 (((p' ++ [y]).length : Int) - 1) < (l.length : Int) := by rw [wj]; omega
  have c1 : 0 + ((p' ++ [y]).length : Int).toNat < (p' ++ [y] ++ x :: (s ++ r)).length := by rw [hfl]; omega
  have c2 : 0 + (IntKind.wrap .i64 (((p' ++ [y]).length : Int) - 1)).toNat < (p' ++ [y] ++ x :: (s ++ r)).length := by rw [hfl, ej1]; omega
  have fx : ∀ u, (p' ++ [y] ++ x :: (s ++ r))[0 + ((p' ++ [y]).length : Int).toNat]? = some u → u = x := fun u hu => by rw [ej, gx] at hu; exact (Option.some.inj hu).symm
  have fy : ∀ u, (p' ++ [y] ++ x :: (s ++ r))[0 + (IntKind.wrap .i64 (((p' ++ [y]).length : Int) - 1)).toNat]? = some u → u = y := fun u hu => by rw [ej1, gy] at hu; exact (Option.some.inj hu).symm
  conv => whnf
  refine ⟨b1, ?_⟩
  conv => whnf
  refine ⟨c1, fun (u : Int × Int) hu => ?_⟩
  obtain rfl := fx u hu
  conv => whnf
  refine ⟨b2, ?_⟩
  conv => whnf
  refine ⟨c2, fun (v : Int × Int) hv => ?_⟩
  obtain rfl := fy v hv
  conv => whnf
  refine ⟨[], ?_⟩
  conv => whnf
  refine h37 u v _ ?_
  conv => whnf
  intro t (ht2 : t = decide (cmpI u.2 v.2 < 0))
  rw [cmpI_lt] at ht2
  cases t
  · have hle : v.2 ≤ u.2 := by have := of_decide_eq_false ht2.symm; omega
    have hso : SortedP (p' ++ [v] ++ u :: s) := by
      unfold SortedP at hsort ⊢
      rw [List.pairwise_append] at hsort ⊢
      refine ⟨hsort.1, .cons (fun z hz => Int.le_of_lt (hlt z hz)) hsort.2.1, fun a ha b hb => ?_⟩
      rcases List.mem_cons.1 hb with rfl | hb
      · rcases List.mem_append.1 ha with ha | ha
        · have := (List.pairwise_append.1 hsort.1).2.2 a ha v (by simp)
          omega
        · simp at ha; subst ha; exact hle
      · exact hsort.2.2 a ha b hb
    obtain ⟨n', q1, i', xs', q2, q3, q4, q5, rfl, rfl⟩ := over hso
    conv => whnf
    exact ⟨n', q1, i + 1, _, q2, q3, q4, q5, back _ _ wi⟩
  have hlt2 : u.2 < v.2 := of_decide_eq_true ht2.symm
  have back2 : ∀ (xs xs' : PL) (z : Int) (m : Nat), xs = xs' → z = (m : Int) →
    (⟨[(0, .c (.osl (.x 0) 0 l.length)), (1, iD 0), (2, iD l.length), (3, .c (.fn 37 [])), (8, iD i), (9, iD z)], [(.x 0, some (.row false .pair xs))]⟩ : St TT) =
    ⟨[(0, .c (.osl (.x 0) 0 l.length)), (1, iD 0), (2, iD l.length), (3, .c (.fn 37 [])), (8, iD i), (9, iD m)], [(.x 0, some (.row false .pair xs'))]⟩ := by rintro _ _ _ _ rfl rfl; rfl
  conv => whnf
  refine ⟨b2, ?_⟩
  conv => whnf
  refine ⟨c2, fun (w : Int × Int) hw => ?_⟩
  obtain rfl := fy w hw
  conv => whnf
  refine ⟨b1, ?_⟩
  conv => whnf
  refine ⟨c1, fun (w' : Int × Int) hw' => ?_⟩
  obtain rfl := fx w' hw'
  conv => whnf
  refine ⟨b1, ?_⟩
  conv => whnf
  refine ⟨c1, fun (_ : Int × Int) _ => ⟨w, rfl, ?_⟩⟩
  conv => whnf
  refine ⟨b2, ?_⟩
  conv => whnf
  refine ⟨(by rw [List.length_set]; exact c2), fun (_ : Int × Int) _ => ⟨w', rfl, ?_⟩⟩
  conv => whnf
  refine ⟨p'.length, by omega, p', w', w :: s, r, rfl, by simp at hps ⊢; omega, ?_, ?_, ?_, back2 _ _ _ _ ?_ wj⟩
  · refine List.Perm.trans ?_ hperm
    rw [List.append_assoc]
    exact List.Perm.append_left p' (List.Perm.swap w w' (s ++ r))
  · unfold SortedP at hsort ⊢
    simpa using hsort
  · intro z hz
    rcases List.mem_cons.1 hz with rfl | hz
    · exact hlt2
    · exact hlt z hz
  · rw [ej, ej1]
    exact swap_at p' w w' (s ++ r)

theorem vc58 (l : PL) (hl : l.length ≤ 19)
    (h80 : ∀ R : RR, (∀ l' : PL, l'.Perm l → SortedP l' → R (.tup []) [(.x 0, some (.row false .pair l'))]) → O 80 [.c (.osl (.x 0) 0 l.length), iD 0, iD l.length, .c (.fn 37 [])] [(.x 0, some (.row false .pair l))] R)
    (R : RR) (hR : ∀ l' : PL, l'.Perm l → SortedP l' → R (.tup []) [(.x 0, some (.row false .pair l'))]) :
    vcF (S := SS) O ir58 [.c (.osl (.x 0) 0 l.length), iD l.length, .c (.fn 37 [])] [(.x 0, some (.row false .pair l))] R := by
  refine ⟨by show 3 ≤ 63; omega, rfl, ?_⟩
  conv => whnf
  refine ⟨fun σ n => n = 0 ∧ σ.keep [0, 1, 2, 6, 7, 8] [.x 0] =
    ⟨[(0, .c (.osl (.x 0) 0 l.length)), (1, iD l.length), (2, .c (.fn 37 [])), (6, iD 20), (7, iD 0), (8, iD 20)], [(.x 0, some (.row false .pair l))]⟩, ⟨0, rfl, rfl⟩, ?_⟩
  rintro σ n ⟨rfl, hσ⟩
  unfold vcC
  rw [hσ]
  conv => whnf
  intro t (ht : t = decide ((20 : Int) ≤ l.length))
  have ht : t = false := by rw [ht]; exact decide_eq_false (by omega)
  subst ht
  conv => whnf
  refine ⟨[.x 0], ?_⟩
  conv => whnf
  refine h80 _ (fun l' hp hs => ?_)
  conv => whnf
  refine ⟨fun σ n => n = 0 ∧ σ.keep [0, 1, 2, 6] [.x 0] =
    ⟨[(0, .c (.osl (.x 0) 0 l.length)), (1, iD l.length), (2, .c (.fn 37 [])), (6, iD 20)], [(.x 0, some (.row false .pair l'))]⟩, ⟨0, rfl, rfl⟩, ?_⟩
  rintro σ n ⟨rfl, hσ⟩
  unfold vcC
  rw [hσ]
  conv => whnf
  intro t (ht : t = decide ((20 : Int) < l.length))
  have ht : t = false := by rw [ht]; exact decide_eq_false (by omega)
  subst ht
  exact ⟨[], nd1, hR l' hp hs⟩

theorem vc36 (l : PL)
    (h58 : ∀ R : RR, (∀ l' : PL, l'.Perm l → SortedP l' → R (.tup []) [(.x 0, some (.row false .pair l'))]) → O 58 [.c (.osl (.x 0) 0 l.length), iD l.length, .c (.fn 37 [])] [(.x 0, some (.row false .pair l))] R)
    (R : RR) (hR : ∀ l' : PL, l'.Perm l → SortedP l' → R (.tup []) [(.x 0, some (.row false .pair l'))]) :
    vcF (S := SS) O ir36 [.c (.osl (.x 0) 0 l.length), .c (.fn 37 [])] [(.x 0, some (.row false .pair l))] R := by
  refine ⟨by show 2 ≤ 9; omega, rfl, ?_⟩
  conv => whnf
  intro _
  conv => whnf
  refine ⟨[.x 0], ?_⟩
  conv => whnf
  refine h58 _ (fun l' hp hs => ?_)
  exact ⟨[], nd1, hR l' hp hs⟩

/-- A pair turned around. -/
def sw (p : Int × Int) : Int × Int := (p.2, p.1)

theorem vc18 (l : PL) (hl : l.length ≤ 19)
    (h36 : ∀ (l : PL), l.length ≤ 19 → ∀ R : RR, (∀ l' : PL, l'.Perm l → SortedP l' → R (.tup []) [(.x 0, some (.row false .pair l'))]) → O 36 [.c (.osl (.x 0) 0 l.length), .c (.fn 37 [])] [(.x 0, some (.row false .pair l))] R)
    (R : RR) (hR : ∀ l' : PL, l'.Perm (l.map sw) → SortedP l' → R (lD .pair l') []) : vcF (S := SS) O ir18 [lD .pair l] [] R := by
  refine ⟨by show 1 ≤ 24; omega, rfl, ?_⟩
  conv => whnf
  intro _
  conv => whnf
  refine ⟨fun σ n => ∃ (i : Nat) (out : PL), i ≤ l.length ∧ n = l.length - i ∧ out = (l.take i).map sw ∧ σ.keep [3, 6, 7, 8] [.sub (.s 3) 3] =
    ⟨[(3, .c (.osl (.sub (.s 3) 3) 0 out.length)), (6, lD .pair l), (7, iD l.length), (8, iD i)], [(.sub (.s 3) 3, some (.row false .pair out))]⟩, ⟨l.length, 0, [], by omega, by omega, rfl, rfl⟩, ?_⟩
  rintro σ n ⟨i, out, hi, rfl, hout, hσ⟩
  have hol : out.length = i := by rw [hout]; simp; omega
  unfold vcC
  rw [hσ]
  conv => whnf
  intro t (ht : t = decide ((i : Int) < l.length))
  cases t
  · have h : ¬ (i : Int) < l.length := of_decide_eq_false ht.symm
    rw [List.take_of_length_le (by omega)] at hout
    conv => whnf
    refine ⟨[.sub (.s 3) 3], ?_⟩
    conv => whnf
    refine h36 out (by omega) _ (fun l' hp hs => ?_)
    have hll : l'.length = out.length := hp.length_eq
    conv => whnf
    refine ⟨(by omega : 0 + out.length ≤ l'.length), ?_⟩
    conv => whnf
    have key : ∀ X : PL, X = l' → R (lD .pair X) [] := by intro X hX; rw [hX]; exact hR l' (hout ▸ hp) hs
    exact ⟨[], .nil, key _ (by rw [List.drop_zero, List.take_of_length_le (by omega)])⟩
  have h : (i : Int) < l.length := of_decide_eq_true ht.symm
  have back : ∀ (out : PL) (len : Nat) (z : Int), len = out.length → z = ((i + 1 : Nat) : Int) →
    (⟨[(3, .c (.osl (.sub (.s 3) 3) 0 len)), (6, lD .pair l), (7, iD l.length), (8, iD z)], [(.sub (.s 3) 3, some (.row false .pair out))]⟩ : St TT) =
    ⟨[(3, .c (.osl (.sub (.s 3) 3) 0 out.length)), (6, lD .pair l), (7, iD l.length), (8, iD ((i + 1 : Nat) : Int))], [(.sub (.s 3) 3, some (.row false .pair out))]⟩ := by rintro _ _ _ rfl rfl; rfl
  conv => whnf
  refine ⟨(⟨by omega, by omega⟩ : (0 : Int) ≤ i ∧ (i : Int) < l.length), fun (u : Int × Int) (hu : l[(i : Int).toNat]? = some u) => ?_⟩
  have hu : l[i]? = some u := by simpa using hu
  obtain ⟨a, b⟩ := u
  conv => whnf
  refine ⟨rfl, rfl, ?_⟩
  conv => whnf
  refine ⟨rfl, ?_⟩
  conv => whnf
  refine ⟨(by omega : out.length + 1 ≤ 68719476736), ?_⟩
  conv => whnf
  refine ⟨l.length - (i + 1), by omega, i + 1, out ++ [(b, a)], by omega, rfl, ?_, back _ _ _ (by simp) (wrapS _ (by omega) (by omega))⟩
  rw [hout, List.take_add_one, hu]
  simp [sw]

/-- The first pair that leads on. -/
def findP (q : Int × Int) : PL → Option (Int × Int)
  | [] => none
  | p :: r => cond (p.2 == q.1) (some (p.1, q.2)) (findP q r)
def compL (a : PL) : PL → PL
  | [] => []
  | q :: r => match findP q a with
    | some x => x :: compL a r
    | none => compL a r

theorem vc19 (a b : PL) (ha : a.length ≤ 1000) (hb : b.length ≤ 1000) (R : RR) (hR : R (lD .pair (compL a b)) []) : vcF (S := SS) O ir19 [lD .pair a, lD .pair b] [] R := by
  refine ⟨by show 2 ≤ 38; omega, rfl, ?_⟩
  conv => whnf
  intro _
  conv => whnf
  refine ⟨fun σ n => ∃ (i : Nat) (out : PL), i ≤ b.length ∧ n = b.length - i ∧ out.length ≤ i ∧ out ++ compL a (b.drop i) = compL a b ∧ σ.keep [0, 5, 10, 11, 12] [.sub (.s 5) 5] =
    ⟨[(0, lD .pair a), (5, .c (.osl (.sub (.s 5) 5) 0 out.length)), (10, lD .pair b), (11, iD b.length), (12, iD i)], [(.sub (.s 5) 5, some (.row false .pair out))]⟩, ⟨b.length, 0, [], by omega, by omega, by simp, rfl, rfl⟩, ?_⟩
  rintro σ n ⟨i, out, hi, rfl, hol, hor, hσ⟩
  unfold vcC
  rw [hσ]
  conv => whnf
  intro t (ht : t = decide ((i : Int) < b.length))
  cases t
  · have h0 : b.drop i = [] := List.drop_eq_nil_of_le (by have := of_decide_eq_false ht.symm; omega)
    rw [h0, compL, List.append_nil] at hor
    conv => whnf
    refine ⟨(by omega : 0 + out.length ≤ out.length), ?_⟩
    conv => whnf
    have key : ∀ X : PL, X = compL a b → R (lD .pair X) [] := by rintro _ rfl; exact hR
    exact ⟨[], .nil, key _ (by rw [List.drop_zero, List.take_length, hor])⟩
  have h : (i : Int) < b.length := of_decide_eq_true ht.symm
  have back : ∀ (out : PL) (len : Nat) (z : Int), len = out.length → z = ((i + 1 : Nat) : Int) →
    (⟨[(0, lD .pair a), (5, .c (.osl (.sub (.s 5) 5) 0 len)), (10, lD .pair b), (11, iD b.length), (12, iD z)], [(.sub (.s 5) 5, some (.row false .pair out))]⟩ : St TT) =
    ⟨[(0, lD .pair a), (5, .c (.osl (.sub (.s 5) 5) 0 out.length)), (10, lD .pair b), (11, iD b.length), (12, iD ((i + 1 : Nat) : Int))], [(.sub (.s 5) 5, some (.row false .pair out))]⟩ := by rintro _ _ _ rfl rfl; rfl
  have wi : IntKind.wrap .i64 ((i : Int) + 1) = ((i + 1 : Nat) : Int) := wrapS _ (by omega) (by omega)
  conv => whnf
  refine ⟨(⟨by omega, by omega⟩ : (0 : Int) ≤ i ∧ (i : Int) < b.length), fun (u : Int × Int) (hu : b[(i : Int).toNat]? = some u) => ?_⟩
  have hu : b[i]? = some u := by simpa using hu
  rw [drop_cons hu, compL] at hor
  obtain ⟨c, d⟩ := u
  conv => whnf
  intro _
  conv => whnf
  refine ⟨fun σ n => ∃ j : Nat, j ≤ a.length ∧ n = a.length - j ∧ findP (c, d) a = findP (c, d) (a.drop j) ∧ σ.keep [0, 5, 7, 10, 11, 12, 16, 17, 18] [.s 7, .sub (.s 5) 5] =
    ⟨[(0, lD .pair a), (5, .c (.osl (.sub (.s 5) 5) 0 out.length)), (7, .c (.ptr (.s 7) 0 0)), (10, lD .pair b), (11, iD b.length), (12, iD i), (16, lD .pair a), (17, iD a.length), (18, iD j)],
      [(.s 7, some (.var [.int .i64 c, .int .i64 d])), (.sub (.s 5) 5, some (.row false .pair out))]⟩, ⟨a.length, 0, by omega, by omega, rfl, rfl⟩, ?_⟩
  rintro σ n ⟨j, hj, rfl, hf, hσ⟩
  unfold vcC
  rw [hσ]
  conv => whnf
  intro t (ht : t = decide ((j : Int) < a.length))
  cases t
  · have h0 : a.drop j = [] := List.drop_eq_nil_of_le (by have := of_decide_eq_false ht.symm; omega)
    rw [h0, findP] at hf
    rw [hf] at hor
    conv => whnf
    exact ⟨b.length - (i + 1), by omega, i + 1, out, by omega, rfl, by omega, hor, back _ _ _ rfl wi⟩
  have h2 : (j : Int) < a.length := of_decide_eq_true ht.symm
  have back2 : ∀ z : Int, z = ((j + 1 : Nat) : Int) →
    (⟨[(0, lD .pair a), (5, .c (.osl (.sub (.s 5) 5) 0 out.length)), (7, .c (.ptr (.s 7) 0 0)), (10, lD .pair b), (11, iD b.length), (12, iD i), (16, lD .pair a), (17, iD a.length), (18, iD z)],
      [(.s 7, some (.var [.int .i64 c, .int .i64 d])), (.sub (.s 5) 5, some (.row false .pair out))]⟩ : St TT) =
    ⟨[(0, lD .pair a), (5, .c (.osl (.sub (.s 5) 5) 0 out.length)), (7, .c (.ptr (.s 7) 0 0)), (10, lD .pair b), (11, iD b.length), (12, iD i), (16, lD .pair a), (17, iD a.length), (18, iD ((j + 1 : Nat) : Int))],
      [(.s 7, some (.var [.int .i64 c, .int .i64 d])), (.sub (.s 5) 5, some (.row false .pair out))]⟩ := by rintro _ rfl; rfl
  conv => whnf
  refine ⟨(⟨by omega, by omega⟩ : (0 : Int) ≤ j ∧ (j : Int) < a.length), fun (v : Int × Int) (hv : a[(j : Int).toNat]? = some v) => ?_⟩
  have hv : a[j]? = some v := by simpa using hv
  rw [drop_cons hv, findP] at hf
  obtain ⟨e, f⟩ := v
  dsimp only at hf
  conv => whnf
  intro t ht2
  rw [← ht2] at hf
  cases t
  · exact ⟨a.length - (j + 1), by omega, j + 1, by omega, rfl, hf, back2 _ (wrapS _ (by omega) (by omega))⟩
  replace hf : findP (c, d) a = some (e, d) := hf
  rw [hf] at hor
  conv => whnf
  refine ⟨rfl, rfl, ?_⟩
  conv => whnf
  refine ⟨rfl, ?_⟩
  conv => whnf
  refine ⟨(by omega : out.length + 1 ≤ 68719476736), ?_⟩
  conv => whnf
  exact ⟨b.length - (i + 1), by omega, i + 1, out ++ [(e, d)], by omega, rfl, by simp; omega, by rw [List.append_assoc]; exact hor, back _ _ _ (by simp) wi⟩

theorem vc20 (a b : PL) (R : RR) (hR : R (bD (decide (a = b))) []) : vcF (S := SS) O ir20 [lD .pair a, lD .pair b] [] R := by
  refine ⟨by show 2 ≤ 26; omega, rfl, ?_⟩
  conv => whnf
  intro (hla : a.length ≤ 9223372036854775807)
  conv => whnf
  intro (hlb : b.length ≤ 9223372036854775807)
  conv => whnf
  intro t (ht : t = ((a.length : Int) != b.length))
  cases t
  rotate_left
  · have hne : a ≠ b := by
      rintro rfl
      simp at ht
    rw [decide_eq_false hne] at hR
    exact ⟨[], .nil, hR⟩
  have hl : a.length = b.length := by
    have := ht.symm
    simp at this
    omega
  conv => whnf
  intro _
  conv => whnf
  refine ⟨fun σ n => ∃ i : Nat, i ≤ a.length ∧ n = a.length - i ∧ (a = b ↔ a.drop i = b.drop i) ∧ σ.keep [0, 1, 12, 13] [] =
    ⟨[(0, lD .pair a), (1, lD .pair b), (12, iD a.length), (13, iD i)], []⟩, ⟨a.length, 0, by omega, by omega, Iff.rfl, rfl⟩, ?_⟩
  rintro σ n ⟨i, hi, rfl, hor, hσ⟩
  unfold vcC
  rw [hσ]
  conv => whnf
  intro t (ht : t = decide ((i : Int) < a.length))
  cases t
  · have h := of_decide_eq_false ht.symm
    have h0 : a.drop i = [] := List.drop_eq_nil_of_le (by omega)
    have h1 : b.drop i = [] := List.drop_eq_nil_of_le (by omega)
    rw [decide_eq_true (hor.2 (by rw [h0, h1]))] at hR
    exact ⟨[], .nil, hR⟩
  have h : (i : Int) < a.length := of_decide_eq_true ht.symm
  have back : ∀ z : Int, z = ((i + 1 : Nat) : Int) → (⟨[(0, lD .pair a), (1, lD .pair b), (12, iD a.length), (13, iD z)], []⟩ : St TT) =
    ⟨[(0, lD .pair a), (1, lD .pair b), (12, iD a.length), (13, iD ((i + 1 : Nat) : Int))], []⟩ := by rintro _ rfl; rfl
  conv => whnf
  refine ⟨(⟨by omega, by omega⟩ : (0 : Int) ≤ i ∧ (i : Int) < a.length), fun (u : Int × Int) (hu : a[(i : Int).toNat]? = some u) => ?_⟩
  have hu : a[i]? = some u := by simpa using hu
  obtain ⟨c, d⟩ := u
  conv => whnf
  refine ⟨(⟨by omega, by omega⟩ : (0 : Int) ≤ i ∧ (i : Int) < b.length), fun (v : Int × Int) (hv : b[(i : Int).toNat]? = some v) => ?_⟩
  have hv : b[i]? = some v := by simpa using hv
  obtain ⟨e, f⟩ := v
  rw [drop_cons hu, drop_cons hv] at hor
  conv => whnf
  intro t ht2
  have ht2 : t = !((c == e) && ((d == f) && true)) := ht2
  cases t
  · have hh : c = e ∧ d = f := by
      have := ht2.symm
      simpa using this
    refine ⟨a.length - (i + 1), by omega, i + 1, by omega, rfl, ?_, back _ (wrap_succ (show i < a.length by omega) hla)⟩
    rw [hor, hh.1, hh.2]
    simp
  · have hne : a ≠ b := by
      intro e'
      have h3 := hor.1 e'
      simp only [List.cons.injEq, Prod.mk.injEq] at h3
      rw [h3.1.1, h3.1.2] at ht2
      simp at ht2
    rw [decide_eq_false hne] at hR
    exact ⟨[], .nil, hR⟩

end Go.Clap

set_option linter.unusedVariables false
set_option linter.unusedSimpArgs false
namespace Go.Clap
variable {O : Oracle TT}

def fromL : LIS → PL → LIS
  | fr, [] => fr
  | fr, p :: r => fromL (fr.set p.2.toNat p.1) r
def usedL : List Bool → PL → List Bool
  | us, [] => us
  | us, p :: r => usedL (us.set p.1.toNat true) r
def lostL : List Bool → Nat → LIS
  | [], _ => []
  | u :: us, i => cond (!u) ((i : Int) :: lostL us (i + 1)) (lostL us (i + 1))

theorem lostL_len : ∀ (us : List Bool) (i : Nat), (lostL us i).length ≤ us.length
  | [], i => by simp [lostL]
  | u :: us, i => by
    have := lostL_len us (i + 1)
    rw [lostL]
    cases u <;> simp <;> omega
theorem fromL_len : ∀ (l : PL) (fr : LIS), (fromL fr l).length = fr.length
  | [], fr => rfl
  | p :: l, fr => by rw [fromL, fromL_len l]; simp
theorem usedL_len : ∀ (l : PL) (us : List Bool), (usedL us l).length = us.length
  | [], us => rfl
  | p :: l, us => by rw [usedL, usedL_len l]; simp

set_option maxHeartbeats 2000000 in
theorem vc17 (l : PL) (n m : Nat) (hn : n ≤ 200) (hm : m ≤ 200) (h12 : Gives O 12 [lD .pair l, iD n, iD m] (iD 0)) (hin : ∀ p ∈ l, (0 ≤ p.1 ∧ p.1 < n) ∧ (0 ≤ p.2 ∧ p.2 < m)) (hll : l.length ≤ 1000)
    (R : RR) (hR : R (.tup [lD .int (fromL (List.replicate m (-1)) l), lD .int (lostL (usedL (List.replicate n false) l) 0), iD 0]) []) :
    vcF (S := SS) O ir17 [lD .pair l, iD n, iD m] [] R := by
  refine ⟨by show 3 ≤ 71; omega, rfl, ?_⟩
  conv => whnf
  refine ⟨[], ?_⟩
  conv => whnf
  refine h12 _ ?_
  conv => whnf
  intro t ht
  obtain rfl : t = false := ht
  conv => whnf
  refine ⟨(⟨by omega, by omega⟩ : (0 : Int) ≤ m ∧ (m : Int) ≤ (68719476736 : Nat)), ?_⟩
  conv => whnf
  intro _
  conv => whnf
  refine ⟨fun σ k => ∃ (i : Nat) (fr : LIS), i ≤ m ∧ k = m - i ∧ fr.length = m ∧ (∀ j, j < i → fr[j]? = some (-1)) ∧ σ.keep [0, 1, 10, 28, 29] [.s 26] =
    ⟨[(0, lD .pair l), (1, iD n), (10, .c (.osl (.s 26) 0 m)), (28, iD m), (29, iD i)], [(.s 26, some (.row false .int fr))]⟩,
    ⟨m, 0, List.replicate m 0, by omega, by omega, by simp, fun j hj => (by omega), rfl⟩, ?_⟩
  rintro σ k ⟨i, fr, hi, rfl, hfl, hfr, hσ⟩
  unfold vcC
  rw [hσ]
  conv => whnf
  intro t (ht : t = decide ((i : Int) < m))
  cases t
  rotate_left
  · have h : (i : Int) < m := of_decide_eq_true ht.symm
    have h0 : 0 + (i : Int).toNat = i := by simp
    have back : ∀ (e : Nat) (z : Int), e = i → z = ((i + 1 : Nat) : Int) → (⟨[(0, lD .pair l), (1, iD n), (10, .c (.osl (.s 26) 0 m)), (28, iD m), (29, iD z)], [(.s 26, some (.row false .int (fr.set e (-1))))]⟩ : St TT) =
      ⟨[(0, lD .pair l), (1, iD n), (10, .c (.osl (.s 26) 0 m)), (28, iD m), (29, iD ((i + 1 : Nat) : Int))], [(.s 26, some (.row false .int (fr.set i (-1))))]⟩ := by rintro _ _ rfl rfl; rfl
    conv => whnf
    refine ⟨(⟨by omega, by omega⟩ : (0 : Int) ≤ i ∧ (i : Int) < (m : Int)), ?_⟩
    conv => whnf
    refine ⟨(by omega : 0 + (i : Int).toNat < fr.length), fun (_ : Int) _ => ⟨-1, rfl, ?_⟩⟩
    conv => whnf
    refine ⟨m - (i + 1), by omega, i + 1, fr.set i (-1), by omega, rfl, by simpa using hfl, fun j hj => ?_, back _ _ h0 (wrapS _ (by omega) (by omega))⟩
    by_cases e : i = j
    · subst e
      rw [List.getElem?_set_self (by omega)]
    · rw [List.getElem?_set_ne e]
      exact hfr j (by omega)
  have hfr : fr = List.replicate m (-1) := by
    have := of_decide_eq_false ht.symm
    apply List.ext_getElem?
    intro j
    by_cases h : j < m
    · rw [hfr j (by omega), List.getElem?_replicate, if_pos h]
    · rw [List.getElem?_eq_none (by omega), List.getElem?_eq_none (by simp; omega)]
  subst hfr
  clear hσ ht
  conv => whnf
  refine ⟨(⟨by omega, by omega⟩ : (0 : Int) ≤ n ∧ (n : Int) ≤ (68719476736 : Nat)), ?_⟩
  conv => whnf
  intro (hlen : l.length ≤ 9223372036854775807)
  conv => whnf
  refine ⟨fun σ k => ∃ (i : Nat) (fr : LIS) (us : List Bool), i ≤ l.length ∧ k = l.length - i ∧ fr.length = m ∧ us.length = n ∧ fromL (List.replicate m (-1)) l = fromL fr (l.drop i) ∧
      usedL (List.replicate n false) l = usedL us (l.drop i) ∧ σ.keep [10, 12, 38, 39, 40] [.s 26, .s 37] =
    ⟨[(10, .c (.osl (.s 26) 0 m)), (12, .c (.osl (.s 37) 0 n)), (38, lD .pair l), (39, iD l.length), (40, iD i)], [(.s 26, some (.row false .int fr)), (.s 37, some (.row false .bool us))]⟩,
    ⟨l.length, 0, _, List.replicate n false, by omega, by omega, by simp, by simp, rfl, rfl, rfl⟩, ?_⟩
  rintro σ k ⟨i, fr, us, hi, rfl, hfl, hul, hf, hu, hσ⟩
  unfold vcC
  rw [hσ]
  conv => whnf
  intro t (ht : t = decide ((i : Int) < l.length))
  cases t
  rotate_left
  · have h : (i : Int) < l.length := of_decide_eq_true ht.symm
    conv => whnf
    refine ⟨(⟨by omega, by omega⟩ : (0 : Int) ≤ i ∧ (i : Int) < l.length), fun (p : Int × Int) (hp : l[(i : Int).toNat]? = some p) => ?_⟩
    have hp : l[i]? = some p := by simpa using hp
    have hpi := hin p (List.mem_of_getElem? hp)
    rw [drop_cons hp, fromL] at hf
    rw [drop_cons hp, usedL] at hu
    obtain ⟨a, b⟩ := p
    obtain ⟨⟨ha0, ha1⟩, hb0, hb1⟩ := hpi
    have ha0 : 0 ≤ a := ha0
    have ha1 : a < n := ha1
    have hb0 : 0 ≤ b := hb0
    have hb1 : b < m := hb1
    have za : 0 + a.toNat = a.toNat := by omega
    have zb : 0 + b.toNat = b.toNat := by omega
    have back : ∀ (e f : Nat) (z : Int), e = b.toNat → f = a.toNat → z = ((i + 1 : Nat) : Int) →
      (⟨[(10, .c (.osl (.s 26) 0 m)), (12, .c (.osl (.s 37) 0 n)), (38, lD .pair l), (39, iD l.length), (40, iD z)], [(.s 26, some (.row false .int (fr.set e a))), (.s 37, some (.row false .bool (us.set f true)))]⟩ : St TT) =
      ⟨[(10, .c (.osl (.s 26) 0 m)), (12, .c (.osl (.s 37) 0 n)), (38, lD .pair l), (39, iD l.length), (40, iD ((i + 1 : Nat) : Int))], [(.s 26, some (.row false .int (fr.set b.toNat a))), (.s 37, some (.row false .bool (us.set a.toNat true)))]⟩ := by
      rintro _ _ _ rfl rfl rfl; rfl
    conv => whnf
    refine ⟨(⟨hb0, hb1⟩ : 0 ≤ b ∧ b < (m : Int)), ?_⟩
    conv => whnf
    refine ⟨(by omega : 0 + b.toNat < fr.length), fun (_ : Int) _ => ⟨a, rfl, ?_⟩⟩
    conv => whnf
    refine ⟨(⟨ha0, ha1⟩ : 0 ≤ a ∧ a < (n : Int)), ?_⟩
    conv => whnf
    refine ⟨(by omega : 0 + a.toNat < us.length), fun (_ : Bool) _ => ⟨true, rfl, ?_⟩⟩
    conv => whnf
    exact ⟨l.length - (i + 1), by omega, i + 1, _, _, by omega, rfl, by simpa using hfl, by simpa using hul, hf, hu, back _ _ _ zb za (wrap_succ (show i < l.length by omega) hlen)⟩
  have h0 : l.drop i = [] := List.drop_eq_nil_of_le (by have := of_decide_eq_false ht.symm; omega)
  rw [h0, fromL] at hf
  rw [h0, usedL] at hu
  subst hf
  rw [hu] at hR
  clear hσ ht hu
  generalize fromL (List.replicate m (-1)) l = fr at hR hfl
  conv => whnf
  intro _
  conv => whnf
  refine ⟨fun σ k => ∃ (i : Nat) (out : LIS), i ≤ us.length ∧ k = us.length - i ∧ out.length ≤ i ∧ lostL us 0 = out ++ lostL (us.drop i) i ∧ σ.keep [10, 15, 55, 56, 57] [.s 26, .s 37, .sub (.s 15) 15] =
    ⟨[(10, .c (.osl (.s 26) 0 m)), (15, .c (.osl (.sub (.s 15) 15) 0 out.length)), (55, .c (.osl (.s 37) 0 n)), (56, iD n), (57, iD i)],
     [(.s 26, some (.row false .int fr)), (.s 37, some (.row false .bool us)), (.sub (.s 15) 15, some (.row false .int out))]⟩,
    ⟨us.length, 0, [], by omega, by omega, by simp, rfl, rfl⟩, ?_⟩
  rintro σ k ⟨i, out, hi, rfl, hol, hlo, hσ⟩
  unfold vcC
  rw [hσ]
  conv => whnf
  intro t (ht : t = decide ((i : Int) < n))
  cases t
  · have h0 : us.drop i = [] := List.drop_eq_nil_of_le (by have := of_decide_eq_false ht.symm; omega)
    rw [h0, lostL, List.append_nil] at hlo
    rw [hlo] at hR
    conv => whnf
    refine ⟨(by omega : 0 + m ≤ fr.length), ?_⟩
    conv => whnf
    refine ⟨(by omega : 0 + out.length ≤ out.length), ?_⟩
    conv => whnf
    have key : ∀ X Y : LIS, X = fr → Y = out → R (.tup [lD .int X, lD .int Y, iD 0]) [] := by rintro _ _ rfl rfl; exact hR
    exact ⟨[], .nil, key _ _ (by rw [List.drop_zero, List.take_of_length_le (by omega)]) (by simp)⟩
  have h : (i : Int) < n := of_decide_eq_true ht.symm
  have h0 : 0 + (i : Int).toNat = i := by simp
  have back : ∀ (out : LIS) (len : Nat) (z : Int), len = out.length → z = ((i + 1 : Nat) : Int) →
    (⟨[(10, .c (.osl (.s 26) 0 m)), (15, .c (.osl (.sub (.s 15) 15) 0 len)), (55, .c (.osl (.s 37) 0 n)), (56, iD n), (57, iD z)],
     [(.s 26, some (.row false .int fr)), (.s 37, some (.row false .bool us)), (.sub (.s 15) 15, some (.row false .int out))]⟩ : St TT) =
    ⟨[(10, .c (.osl (.s 26) 0 m)), (15, .c (.osl (.sub (.s 15) 15) 0 out.length)), (55, .c (.osl (.s 37) 0 n)), (56, iD n), (57, iD ((i + 1 : Nat) : Int))],
     [(.s 26, some (.row false .int fr)), (.s 37, some (.row false .bool us)), (.sub (.s 15) 15, some (.row false .int out))]⟩ := by
    rintro _ _ _ rfl rfl; rfl
  have wi : IntKind.wrap .i64 ((i : Int) + 1) = ((i + 1 : Nat) : Int) := wrapS _ (by omega) (by omega)
  obtain ⟨u, hu⟩ : ∃ u, us[i]? = some u := ⟨us[i], List.getElem?_eq_getElem (by omega)⟩
  rw [show us.drop i = u :: us.drop (i + 1) by obtain ⟨q1, q2⟩ := List.getElem?_eq_some_iff.1 hu; rw [List.drop_eq_getElem_cons q1, q2], lostL] at hlo
  conv => whnf
  refine ⟨(⟨by omega, by omega⟩ : (0 : Int) ≤ i ∧ (i : Int) < (n : Int)), ?_⟩
  conv => whnf
  refine ⟨(by omega : 0 + (i : Int).toNat < us.length), fun (u' : Bool) (hu' : us[0 + (i : Int).toNat]? = some u') => ?_⟩
  rw [h0, hu] at hu'
  obtain rfl := Option.some.inj hu'
  cases u
  · conv => whnf
    refine ⟨rfl, rfl, ?_⟩
    conv => whnf
    refine ⟨rfl, ?_⟩
    conv => whnf
    refine ⟨(by omega : out.length + 1 ≤ 68719476736), ?_⟩
    conv => whnf
    exact ⟨us.length - (i + 1), by omega, i + 1, out ++ [(i : Int)], by omega, rfl, by simp; omega, by rw [List.append_assoc]; exact hlo, back _ _ _ (by simp) wi⟩
  · conv => whnf
    exact ⟨us.length - (i + 1), by omega, i + 1, out, by omega, rfl, by omega, hlo, back _ _ _ rfl wi⟩

end Go.Clap

set_option linter.unusedVariables false
set_option linter.unusedSimpArgs false
namespace Go.Clap
variable {O : Oracle TT}

set_option maxHeartbeats 2000000 in
theorem vc5_of (x y : LIS) (A B : FL) (l : PL) (fr lost : LIS) (gx : Gives O 8 [lD .int x] (vD (.mk 8 0 nmE A))) (gy : Gives O 8 [lD .int y] (vD (.mk 8 0 nmE B)))
    (g16 : Gives O 16 [vD (.mk 8 0 nmE A), vD (.mk 8 0 nmE B), sD ⟨#[97]⟩] (.tup [lD .pair l, iD 0]))
    (g17 : Gives O 17 [lD .pair l, iD A.length, iD B.length] (.tup [lD .int fr, lD .int lost, iD 0])) (h10 : Gives O 10 [] (bD true))
    (hfl : fr.length = B.length) (hlo : lost.length + l.length = A.length) (hfr : ∀ p ∈ l, (0 ≤ p.2 ∧ p.2 < (B.length : Int)) ∧ fr[p.2.toNat]? = some p.1)
    (h18 : ∀ l : PL, l.length ≤ 19 → ∀ R : RR, (∀ l' : PL, l'.Perm (l.map sw) → SortedP l' → R (lD .pair l') []) → O 18 [lD .pair l] [] R)
    (h19 : ∀ a b : PL, a.length ≤ 1000 → b.length ≤ 1000 → Gives O 19 [lD .pair a, lD .pair b] (lD .pair (compL a b)))
    (h20 : ∀ a b : PL, Gives O 20 [lD .pair a, lD .pair b] (bD (decide (a = b))))
    (hI : ∀ i1 : PL, i1.Perm (l.map sw) → SortedP i1 → (∀ i2 : PL, i2.Perm (i1.map sw) → SortedP i2 → i2 = l) ∧ (compL l i1).length = l.length ∧ (∀ p ∈ compL l i1, p.1 = p.2) ∧
      (∀ (i : Nat) p q, (compL l i1)[i]? = some p → (compL l i1)[i + 1]? = some q → p.1 < q.1))
    (hl : l.length ≤ 7) (lx : A.length ≤ 7) (ly : B.length ≤ 7) (R : RR) (hR : R (bD true) []) : vcF (S := SS) O ir5 [lD .int x, lD .int y] [] R := by
  refine ⟨by show 2 ≤ 129; omega, rfl, ?_⟩
  conv => whnf
  refine ⟨[], ?_⟩
  conv => whnf
  refine gx _ ?_
  conv => whnf
  refine ⟨[], ?_⟩
  conv => whnf
  refine gy _ ?_
  conv => whnf
  refine ⟨[], ?_⟩
  conv => whnf
  refine g16 _ ?_
  conv => whnf
  intro _
  conv => whnf
  intro _
  conv => whnf
  refine ⟨[], ?_⟩
  conv => whnf
  refine g17 _ ?_
  conv => whnf
  refine ⟨[], ?_⟩
  conv => whnf
  refine h10 _ ?_
  conv => whnf
  intro t ht
  obtain rfl : t = false := ht
  conv => whnf
  intro t ht
  obtain rfl : t = false := ht
  conv => whnf
  intro _
  conv => whnf
  intro _
  conv => whnf
  intro t (ht : t = ((fr.length : Int) != B.length))
  have ht : t = false := by rw [ht, hfl]; simp
  subst ht
  conv => whnf
  intro _
  conv => whnf
  intro _
  conv => whnf
  intro _
  conv => whnf
  intro t (ht : t = (IntKind.wrap .i64 ((lost.length : Int) + l.length) != A.length))
  have w1 : IntKind.wrap .i64 ((lost.length : Int) + l.length) = (A.length : Int) := by
    have : ((lost.length : Int) + l.length) = (A.length : Int) := by omega
    rw [this]
    exact wrapS _ (by omega) (by omega)
  have ht : t = false := by rw [ht, w1]; simp
  subst ht
  conv => whnf
  intro (hlen : l.length ≤ 9223372036854775807)
  conv => whnf
  refine ⟨fun σ k => ∃ i : Nat, i ≤ l.length ∧ k = l.length - i ∧ σ.keep [7, 9, 69, 70, 71] [] =
    ⟨[(7, lD .pair l), (9, lD .int fr), (69, lD .pair l), (70, iD l.length), (71, iD i)], []⟩, ⟨l.length, 0, by omega, by omega, rfl⟩, ?_⟩
  rintro σ k ⟨i, hi, rfl, hσ⟩
  unfold vcC
  rw [hσ]
  conv => whnf
  intro t (ht : t = decide ((i : Int) < l.length))
  cases t
  rotate_left
  · have h : (i : Int) < l.length := of_decide_eq_true ht.symm
    have back : ∀ z : Int, z = ((i + 1 : Nat) : Int) → (⟨[(7, lD .pair l), (9, lD .int fr), (69, lD .pair l), (70, iD l.length), (71, iD z)], []⟩ : St TT) =
      ⟨[(7, lD .pair l), (9, lD .int fr), (69, lD .pair l), (70, iD l.length), (71, iD ((i + 1 : Nat) : Int))], []⟩ := by rintro _ rfl; rfl
    conv => whnf
    refine ⟨(⟨by omega, by omega⟩ : (0 : Int) ≤ i ∧ (i : Int) < l.length), fun (p : Int × Int) (hp : l[(i : Int).toNat]? = some p) => ?_⟩
    have hp : l[i]? = some p := by simpa using hp
    obtain ⟨⟨b0, b1⟩, b2⟩ := hfr p (List.mem_of_getElem? hp)
    obtain ⟨a, b⟩ := p
    have b0 : 0 ≤ b := b0
    have b1 : b < (B.length : Int) := b1
    have b2 : fr[b.toNat]? = some a := b2
    conv => whnf
    refine ⟨(⟨b0, by omega⟩ : 0 ≤ b ∧ b < (fr.length : Int)), fun (u : Int) (hu : fr[b.toNat]? = some u) => ?_⟩
    rw [b2] at hu
    obtain rfl := Option.some.inj hu
    conv => whnf
    intro t (ht2 : t = (a != a))
    have ht2 : t = false := by simpa using ht2
    subst ht2
    conv => whnf
    exact ⟨l.length - (i + 1), by omega, i + 1, by omega, rfl, back _ (wrapS _ (by omega) (by omega))⟩
  clear hσ ht
  conv => whnf
  refine ⟨[], ?_⟩
  conv => whnf
  refine h18 l (by omega) _ (fun i1 hp1 hs1 => ?_)
  have h1l : i1.length = l.length := by rw [hp1.length_eq]; simp
  conv => whnf
  refine ⟨[], ?_⟩
  conv => whnf
  refine h18 i1 (by omega) _ (fun i2 hp2 hs2 => ?_)
  obtain rfl := (hI i1 hp1 hs1).1 i2 hp2 hs2
  conv => whnf
  refine ⟨[], ?_⟩
  conv => whnf
  refine h18 i2 (by omega) _ (fun i3 hp3 hs3 => ?_)
  have h3l : i3.length = i2.length := by rw [hp3.length_eq]; simp
  conv => whnf
  refine ⟨[], ?_⟩
  conv => whnf
  refine h19 i2 i3 (by omega) (by omega) _ ?_
  obtain ⟨_, s1, s2, s3⟩ := hI i3 hp3 hs3
  obtain ⟨s, hs⟩ : ∃ s, s = compL i2 i3 := ⟨_, rfl⟩
  rw [← hs] at s1 s2 s3 ⊢
  conv => whnf
  intro _
  conv => whnf
  refine ⟨fun σ k => ∃ i : Nat, i ≤ s.length ∧ k = s.length - i ∧ σ.keep [7, 14, 15, 91, 92, 93] [] =
    ⟨[(7, lD .pair i2), (14, lD .pair i2), (15, lD .pair s), (91, lD .pair s), (92, iD s.length), (93, iD i)], []⟩, ⟨s.length, 0, by omega, by omega, rfl⟩, ?_⟩
  rintro σ k ⟨i, hi, rfl, hσ⟩
  unfold vcC
  rw [hσ]
  conv => whnf
  intro t (ht : t = decide ((i : Int) < s.length))
  cases t
  · conv => whnf
    refine ⟨[], ?_⟩
    conv => whnf
    refine h20 i2 i2 _ ?_
    have e : decide (i2 = i2) = true := decide_eq_true rfl
    rw [e]
    conv => whnf
    intro _
    conv => whnf
    intro _
    conv => whnf
    intro t (ht : t = ((s.length : Int) == i2.length))
    have ht : t = true := by rw [ht, s1]; simp
    subst ht
    exact ⟨[], .nil, hR⟩
  have h : (i : Int) < s.length := of_decide_eq_true ht.symm
  have back : ∀ z : Int, z = ((i + 1 : Nat) : Int) → (⟨[(7, lD .pair i2), (14, lD .pair i2), (15, lD .pair s), (91, lD .pair s), (92, iD s.length), (93, iD z)], []⟩ : St TT) =
    ⟨[(7, lD .pair i2), (14, lD .pair i2), (15, lD .pair s), (91, lD .pair s), (92, iD s.length), (93, iD ((i + 1 : Nat) : Int))], []⟩ := by rintro _ rfl; rfl
  have wi : IntKind.wrap .i64 ((i : Int) + 1) = ((i + 1 : Nat) : Int) := wrapS _ (by omega) (by omega)
  conv => whnf
  refine ⟨(⟨by omega, by omega⟩ : (0 : Int) ≤ i ∧ (i : Int) < s.length), fun (p : Int × Int) (hp : s[(i : Int).toNat]? = some p) => ?_⟩
  have hp : s[i]? = some p := by simpa using hp
  have hpp := s2 p (List.mem_of_getElem? hp)
  obtain ⟨a, b⟩ := p
  obtain rfl : a = b := hpp
  conv => whnf
  intro t (ht2 : t = (a != a))
  have ht2 : t = false := by simpa using ht2
  subst ht2
  conv => whnf
  intro t (ht3 : t = decide ((i : Int) > 0))
  cases t
  · conv => whnf
    exact ⟨s.length - (i + 1), by omega, i + 1, by omega, rfl, back _ wi⟩
  have hpos : (i : Int) > 0 := of_decide_eq_true ht3.symm
  obtain ⟨j, rfl⟩ : ∃ j, i = j + 1 := ⟨i - 1, by omega⟩
  have wj : IntKind.wrap .i64 (((j + 1 : Nat) : Int) - 1) = (j : Int) := by rw [wrapS _ (by omega) (by omega)]; omega
  conv => whnf
  refine ⟨(by rw [wj]; omega : (0 : Int) ≤ IntKind.wrap .i64 (((j + 1 : Nat) : Int) - 1) ∧ IntKind.wrap .i64 (((j + 1 : Nat) : Int) - 1) < s.length), fun (q : Int × Int) (hq : s[(IntKind.wrap .i64 (((j + 1 : Nat) : Int) - 1)).toNat]? = some q) => ?_⟩
  rw [wj, Int.toNat_natCast] at hq
  have hlt := s3 j q (a, a) hq hp
  obtain ⟨c, d⟩ := q
  have hlt : c < a := hlt
  conv => whnf
  intro t (ht4 : t = decide (c ≥ a))
  have ht4 : t = false := by rw [ht4]; exact decide_eq_false (by omega)
  subst ht4
  conv => whnf
  exact ⟨s.length - (j + 1 + 1), by omega, j + 1 + 1, by omega, rfl, back _ wi⟩

end Go.Clap
