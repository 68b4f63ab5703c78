/- Contracts: copies of values; the value of a field. -/
import Derived.Test.YtnielhfaioakkaaClapI4
set_option linter.unusedVariables false
set_option linter.unusedSimpArgs false
namespace Go.Clap
variable {O : Oracle TT}

-- No list of fields is too long to be copied.
mutual
def smallV : V → Prop
  | .mk _ _ _ fs => fs.length ≤ 68719476736 ∧ smallFs fs
def smallFs : List (ByteArray × V) → Prop
  | [] => True
  | (_, v) :: r => smallV v ∧ smallFs r
end
theorem smallFs_mem : ∀ {l : FL} {f : ByteArray × V}, smallFs l → f ∈ l → smallV f.2
  | [], f, _, h => by cases h
  | (s, v) :: r, f, hs, h => by
    rw [smallFs] at hs
    rcases List.mem_cons.1 h with rfl | h
    · exact hs.1
    · exact smallFs_mem hs.2 h

def Own79 (O : Oracle TT) : Prop := ∀ (l : FL) (R : RR), l.length ≤ 68719476736 → (l = [] → R (.c .nils) []) → R (.c (.osl (.x 0) 0 l.length)) [(.x 0, some (.row false .fld l))] → O 79 [lD .fld l] [] R

theorem vc79 (l : FL) (R : RR) (hl : l.length ≤ 68719476736) (h1 : l = [] → R (.c .nils) []) (h2 : R (.c (.osl (.x 0) 0 l.length)) [(.x 0, some (.row false .fld l))]) :
    vcF (S := SS) O ir79 [lD .fld l] [] R := by
  refine ⟨by show 1 ≤ 8; omega, rfl, ?_⟩
  have key : ∀ (q : FL) (n : Nat), q = l → n = l.length → R (.c (.osl (.x 0) 0 n)) [(.x 0, some (.row false .fld q))] := by rintro _ _ rfl rfl; exact h2
  conv => whnf
  intro t (ht : l ≠ [] → t = false)
  cases t
  · conv => whnf
    refine ⟨rfl, rfl, ?_⟩
    conv => whnf
    refine ⟨rfl, ?_⟩
    conv => whnf
    refine ⟨(by simpa using hl : ([] : FL).length + l.length ≤ 68719476736), ?_⟩
    conv => whnf
    exact ⟨[.s 7], (by decide : (lX 0 ++ [Id.s 7]).Nodup), key _ _ (List.nil_append l) (by simp)⟩
  · have hn : l = [] := by
      rcases Classical.em (l = []) with h | h
      · exact h
      · cases ht h
    exact ⟨[], .nil, h1 hn⟩

theorem set_self {α : Type} {l : List α} {i : Nat} {x : α} (h : l[i]? = some x) : l.set i x = l := by
  apply List.ext_getElem?
  intro j
  rw [List.getElem?_set]
  split
  · rename_i e
    subst e
    have := (List.getElem?_eq_some_iff.1 h).1
    rw [if_pos this, h]
  · rfl

theorem vc57 (h79 : Own79 O) (v : V) (hv : smallV v) (h57 : ∀ x ∈ v.fs, Gives O 57 [vD x.2] (vD x.2)) (R : RR) (hR : R (vD v) []) : vcF (S := SS) O ir57 [vD v] [] R := by
  obtain ⟨k, n, s, fs⟩ := v
  rw [smallV] at hv
  replace h57 : ∀ x ∈ fs, Gives O 57 [vD x.2] (vD x.2) := h57
  refine ⟨by show 1 ≤ 28; omega, rfl, ?_⟩
  have back : ∀ (l : FL) (i : Nat) (len : Nat) (z zl : Int), l = fs → len = fs.length → z = (i : Int) → zl = fs.length →
      (⟨[(1, .c (.ptr (.s 1) 0 0)), (2, .c (.ptr (.s 2) 0 0)), (10, iD zl), (11, iD z)], [(.s 1, some (.var [.int .i64 k, .int .i64 n, .str s, .osl (.sub (.s 1) 3) 0 len])), (.s 2, some (.var [.int .i64 0, .int .i64 0, .str ⟨#[]⟩, .isl .fld []])), (.sub (.s 1) 3, some (.row false .fld l))]⟩ : St TT) =
      ⟨[(1, .c (.ptr (.s 1) 0 0)), (2, .c (.ptr (.s 2) 0 0)), (10, iD fs.length), (11, iD i)], [(.s 1, some (.var [.int .i64 k, .int .i64 n, .str s, .osl (.sub (.s 1) 3) 0 fs.length])), (.s 2, some (.var [.int .i64 0, .int .i64 0, .str ⟨#[]⟩, .isl .fld []])), (.sub (.s 1) 3, some (.row false .fld fs))]⟩ := by
    rintro _ _ _ _ _ rfl rfl rfl rfl; rfl
  conv => whnf
  refine ⟨[], ?_⟩
  conv => whnf
  refine h79 fs _ hv.1 ?_ ?_
  · intro hnil
    conv => whnf
    intro _
    conv => whnf
    refine ⟨fun σ m => ∃ i : Nat, i ≤ fs.length ∧ m = fs.length - i ∧ σ.keep [1, 2, 10, 11] [.s 1, .s 2, .sub (.s 1) 3] =
      ⟨[(1, .c (.ptr (.s 1) 0 0)), (2, .c (.ptr (.s 2) 0 0)), (10, iD fs.length), (11, iD i)], [(.s 1, some (.var [.int .i64 k, .int .i64 n, .str s, .osl (.sub (.s 1) 3) 0 fs.length])), (.s 2, some (.var [.int .i64 0, .int .i64 0, .str ⟨#[]⟩, .isl .fld []])), (.sub (.s 1) 3, some (.row false .fld fs))]⟩,
      ⟨fs.length, 0, by omega, by omega, back _ _ _ _ _ hnil.symm (by rw [hnil]; rfl) rfl (by rw [hnil]; rfl)⟩, ?_⟩
    rintro σ m ⟨i, hi, rfl, hσ⟩
    unfold vcC
    rw [hσ]
    conv => whnf
    intro t (ht : t = decide ((i : Int) < fs.length))
    have hf : fs.length = 0 := by rw [hnil]; rfl
    have ht : t = false := by rw [ht]; exact decide_eq_false (by omega)
    subst ht
    conv => whnf
    refine ⟨(by omega : 0 + fs.length ≤ fs.length), ?_⟩
    conv => whnf
    have key : ∀ X : FL, X = fs → R (vD (.mk k n s X)) [] := by rintro _ rfl; exact hR
    exact ⟨[], .nil, key _ (by simp)⟩
  · conv => whnf
    intro (hlen : fs.length ≤ 9223372036854775807)
    conv => whnf
    refine ⟨fun σ m => ∃ i : Nat, i ≤ fs.length ∧ m = fs.length - i ∧ σ.keep [1, 2, 10, 11] [.s 1, .s 2, .sub (.s 1) 3] =
      ⟨[(1, .c (.ptr (.s 1) 0 0)), (2, .c (.ptr (.s 2) 0 0)), (10, iD fs.length), (11, iD i)], [(.s 1, some (.var [.int .i64 k, .int .i64 n, .str s, .osl (.sub (.s 1) 3) 0 fs.length])), (.s 2, some (.var [.int .i64 0, .int .i64 0, .str ⟨#[]⟩, .isl .fld []])), (.sub (.s 1) 3, some (.row false .fld fs))]⟩,
      ⟨fs.length, 0, by omega, by omega, back _ _ _ _ _ rfl rfl rfl rfl⟩, ?_⟩
    rintro σ m ⟨i, hi, rfl, hσ⟩
    unfold vcC
    rw [hσ]
    conv => whnf
    intro t (ht : t = decide ((i : Int) < fs.length))
    cases t
    · conv => whnf
      refine ⟨(by omega : 0 + fs.length ≤ fs.length), ?_⟩
      conv => whnf
      have key : ∀ X : FL, X = fs → R (vD (.mk k n s X)) [] := by rintro _ rfl; exact hR
      exact ⟨[], .nil, key _ (by simp)⟩
    have h : (i : Int) < fs.length := of_decide_eq_true ht.symm
    obtain ⟨x, hx⟩ : ∃ x, fs[i]? = some x := ⟨fs[i], List.getElem?_eq_getElem (by omega)⟩
    have hm := h57 x (List.mem_of_getElem? hx)
    have h0i : 0 + (i : Int).toNat = i := by simp
    conv => whnf
    refine ⟨(⟨by omega, by omega⟩ : (0 : Int) ≤ i ∧ (i : Int) < fs.length), ?_⟩
    conv => whnf
    refine ⟨(by omega : 0 + (i : Int).toNat < fs.length), fun (y : ByteArray × V) (hy : fs[0 + (i : Int).toNat]? = some y) => ?_⟩
    rw [h0i, hx] at hy
    obtain rfl := Option.some.inj hy
    obtain ⟨s', k', n', t', fs'⟩ := x
    conv => whnf
    refine ⟨[], ?_⟩
    conv => whnf
    refine hm _ ?_
    conv => whnf
    refine ⟨(⟨by omega, by omega⟩ : (0 : Int) ≤ i ∧ (i : Int) < fs.length), ?_⟩
    conv => whnf
    refine ⟨(by omega : 0 + (i : Int).toNat < fs.length), fun (y : ByteArray × V) (hy : fs[0 + (i : Int).toNat]? = some y) => ?_⟩
    rw [h0i, hx] at hy
    obtain rfl := Option.some.inj hy
    conv => whnf
    refine ⟨(s', .mk k' n' t' fs'), rfl, ?_⟩
    conv => whnf
    exact ⟨fs.length - (i + 1), by omega, i + 1, by omega, rfl, back _ _ _ _ _ (by rw [h0i]; exact set_self hx) rfl (wrap_succ (show i < fs.length by omega) hlen) rfl⟩

/-- The first field with a name, of what is no list. -/
def getF (k : Int) (nm : ByteArray) : FL → Option V
  | [] => none
  | f :: r => cond ((f.1.toList == nm.toList) && (k != 8)) (some f.2) (getF k nm r)
def zeroV : V := .mk 0 0 ⟨#[]⟩ []
def getD (v : V) (nm : ByteArray) : D TT := match getF v.kind nm v.fs with
  | some w => .tup [vD w, bD true]
  | none => .tup [vD zeroV, bD false]

theorem vc35 (v : V) (nm : ByteArray) (h57 : ∀ x ∈ v.fs, Gives O 57 [vD x.2] (vD x.2)) (R : RR) (hR : R (getD v nm) []) : vcF (S := SS) O ir35 [vD v, sD nm] [] R := by
  obtain ⟨k, n, s, fs⟩ := v
  replace h57 : ∀ x ∈ fs, Gives O 57 [vD x.2] (vD x.2) := h57
  replace hR : R (match getF k nm fs with | some w => .tup [vD w, bD true] | none => .tup [vD zeroV, bD false]) [] := hR
  refine ⟨by show 2 ≤ 29; omega, rfl, ?_⟩
  conv => whnf
  intro (hlen : fs.length ≤ 9223372036854775807)
  conv => whnf
  refine ⟨fun σ m => ∃ i : Nat, i ≤ fs.length ∧ m = fs.length - i ∧ getF k nm fs = getF k nm (fs.drop i) ∧ σ.keep [1, 2, 4, 9, 10, 11] [.s 2, .s 4] =
    ⟨[(1, sD nm), (2, .c (.ptr (.s 2) 0 0)), (4, .c (.ptr (.s 4) 0 0)), (9, lD .fld fs), (10, iD fs.length), (11, iD i)], [(.s 2, some (.var (rowV (.mk k n s fs)))), (.s 4, some (.var [.int .i64 0, .int .i64 0, .str ⟨#[]⟩, .isl .fld []]))]⟩,
    ⟨fs.length, 0, by omega, by omega, rfl, rfl⟩, ?_⟩
  rintro σ m ⟨i, hi, rfl, hor, hσ⟩
  unfold vcC
  rw [hσ]
  rw [hor] at hR
  conv => whnf
  intro t (ht : t = decide ((i : Int) < fs.length))
  cases t
  · have h0 : fs.drop i = [] := List.drop_eq_nil_of_le (by have := of_decide_eq_false ht.symm; omega)
    rw [h0, getF] at hR
    exact ⟨[], .nil, hR⟩
  have h : (i : Int) < fs.length := of_decide_eq_true ht.symm
  have back : ∀ (z : Int), z = ((i + 1 : Nat) : Int) →
    (⟨[(1, sD nm), (2, .c (.ptr (.s 2) 0 0)), (4, .c (.ptr (.s 4) 0 0)), (9, lD .fld fs), (10, iD fs.length), (11, iD z)], [(.s 2, some (.var (rowV (.mk k n s fs)))), (.s 4, some (.var [.int .i64 0, .int .i64 0, .str ⟨#[]⟩, .isl .fld []]))]⟩ : St TT) =
    ⟨[(1, sD nm), (2, .c (.ptr (.s 2) 0 0)), (4, .c (.ptr (.s 4) 0 0)), (9, lD .fld fs), (10, iD fs.length), (11, iD ((i + 1 : Nat) : Int))], [(.s 2, some (.var (rowV (.mk k n s fs)))), (.s 4, some (.var [.int .i64 0, .int .i64 0, .str ⟨#[]⟩, .isl .fld []]))]⟩ := by
    rintro _ rfl; rfl
  have wi := wrap_succ (show i < fs.length by omega) hlen
  conv => whnf
  refine ⟨(⟨by omega, by omega⟩ : (0 : Int) ≤ i ∧ (i : Int) < fs.length), fun (y : ByteArray × V) (hy : fs[(i : Int).toNat]? = some y) => ?_⟩
  have hy : fs[i]? = some y := by simpa using hy
  have hm := h57 y (List.mem_of_getElem? hy)
  rw [drop_cons hy, getF] at hor hR
  obtain ⟨s', k', n', t', fs'⟩ := y
  dsimp only at hor hR
  conv => whnf
  intro t ht1
  rw [← ht1] at hor hR
  cases t
  · exact ⟨fs.length - (i + 1), by omega, i + 1, by omega, rfl, hor, back _ wi⟩
  conv => whnf
  intro t ht2
  rw [← ht2] at hor hR
  cases t
  · exact ⟨fs.length - (i + 1), by omega, i + 1, by omega, rfl, hor, back _ wi⟩
  conv => whnf
  refine ⟨[], ?_⟩
  conv => whnf
  refine hm _ ?_
  conv => whnf
  exact ⟨[], .nil, hR⟩

end Go.Clap
