/- Lists of small records: what check, type, copy and view say of them. -/
import Derived.Test.YthhdejjjcaamiaaGreatDoorClapU2
import Derived.Test.YthhdejjjcaamiaaGreatDoorClapS0
set_option linter.unusedVariables false
set_option linter.unusedSimpArgs false
set_option maxRecDepth 1000000
set_option maxHeartbeats 4000000
namespace Go.Clap

theorem gr_t {α : Type} {p : Prop} [Decidable p] {m : Option α} (h : p) : grdP p m = m := if_pos h
theorem gn_t {α β : Type} {xs : List α} {i : Nat} {u : α} {f : α → Option β} (h : xs[i]? = some u) : getN xs i f = f u := by unfold getN; rw [h]
theorem gl_t {α β : Type} {xs : List α} {i : Nat} {u : α} {f : α → Option β} (h : xs[i]? = some u) : getL xs (i : Int) f = f u := by
  unfold getL; rw [if_pos (by omega), Int.toNat_natCast, h]
theorem gl_0 {α β : Type} {u : α} {t : List α} {f : α → Option β} : getL (u :: t) 0 f = f u := rfl
theorem sbr {τ ο : Type} (x : ο) (f : ο → Option τ) : sbind (some (.inr x)) f = f x := rfl
theorem sbl {τ ο : Type} (x : τ) (f : ο → Option τ) : sbind (some (.inl x)) f = some x := rfl
theorem bso {α β : Type} (x : α) (f : α → Option β) : (some x).bind f = f x := rfl
theorem wi {x : Int} (h0 : -1000000 ≤ x) (h1 : x ≤ 1000000) : IntKind.wrap .i64 x = x := by rw [IntKind.wrap_i64]; omega
theorem set_same {α : Type} {l : List α} {i : Nat} {u : α} (h : l[i]? = some u) : l.set i u = l := by
  apply List.ext_getElem?
  intro k
  rw [List.getElem?_set]
  split
  · rename_i e
    subst e
    split
    · exact h.symm
    · rename_i h2; have := (List.getElem?_eq_some_iff.1 h).1; omega
  · rfl

/-- What is known of an element of a list of the element type T. -/
structure GE (T : Tp) (x : ByteArray × V) : Prop where
  nm : x.1 = ee
  sz : ∃ c, f75 11 x.2 = some c ∧ 0 ≤ c ∧ c ≤ 3
  dp : ∃ c, f76 11 x.2 = some c ∧ 0 ≤ c ∧ c ≤ 3
  nd : f77 11 x.2 false = some 0
  cp : f57 11 x.2 = some x.2
  hs : f1039 12 [] T x.2 = some ([], true)

theorem size_l {T : Tp} : ∀ (F : List (ByteArray × V)) (j : Nat) (acc : Int), (∀ x ∈ F, GE T x) → 0 ≤ acc → acc + 3 * F.length ≤ 1000 → ∃ r, f75_L2 (f75 11) F j acc = some (.inr r) ∧ 0 ≤ r ∧ r ≤ acc + 3 * F.length
  | [], j, acc, _, h0, _ => ⟨acc, by rw [f75_L2], h0, by simp⟩
  | (a, .mk k n s f) :: t, j, acc, h, h0, hb => by
    obtain ⟨c, hc, hc0, hc3⟩ := (h _ List.mem_cons_self).sz
    simp only [List.length_cons] at hb
    rw [f75_L2, hc]
    simp only [bso]
    rw [wi (by omega) (by omega)]
    obtain ⟨r, h1, h2, h3⟩ := size_l t (j + 1) (acc + c) (fun x hx => h x (List.mem_cons_of_mem _ hx)) (by omega) (by omega)
    exact ⟨r, h1, h2, by simp only [List.length_cons]; omega⟩
theorem deep_l {T : Tp} : ∀ (F : List (ByteArray × V)) (j : Nat) (acc : Int), (∀ x ∈ F, GE T x) → 0 ≤ acc → acc ≤ 3 → ∃ r, f76_L2 (f76 11) F j acc = some (.inr r) ∧ 0 ≤ r ∧ r ≤ 3
  | [], j, acc, _, h0, h3 => ⟨acc, by rw [f76_L2], h0, h3⟩
  | (a, .mk k n s f) :: t, j, acc, h, h0, h3 => by
    obtain ⟨c, hc, hc0, hc3⟩ := (h _ List.mem_cons_self).dp
    rw [f76_L2, hc]
    simp only [bso]
    exact deep_l t (j + 1) _ (fun x hx => h x (List.mem_cons_of_mem _ hx)) (by split <;> omega) (by split <;> omega)
theorem node_l {T : Tp} : ∀ (F : List (ByteArray × V)) (j : Nat), (∀ x ∈ F, GE T x) → f77_L2 (f77 11) F j = some (.inr ())
  | [], j, _ => by rw [f77_L2]
  | (a, .mk k n s f) :: t, j, h => by
    have h1 : f77 11 (V.mk k n s f) false = some 0 := (h _ List.mem_cons_self).nd
    rw [f77_L2, h1]
    simp only [bso]
    exact node_l t (j + 1) (fun x hx => h x (List.mem_cons_of_mem _ hx))
theorem keys_l {T : Tp} (G : List (ByteArray × V)) : ∀ (F : List (ByteArray × V)) (j : Nat), (∀ x ∈ F, GE T x) → f129_L2 8 G F j = some (.inr ())
  | [], j, _ => by rw [f129_L2]
  | (a, .mk k n s f) :: t, j, h => by
    have h1 : a = ee := (h _ List.mem_cons_self).nm
    subst h1
    rw [f129_L2]
    simp only [beq_self_eq_true, Bool.not_true, cond_false, cond_true]
    exact keys_l G t (j + 1) (fun x hx => h x (List.mem_cons_of_mem _ hx))

theorem check_l {T : Tp} {F : List (ByteArray × V)} (h : ∀ x ∈ F, GE T x) (hl : F.length ≤ 7) : f51 12 (V.mk 8 0 ee F) = some 0 := by
  unfold f51
  dsimp only
  have e1 : f75 12 (V.mk 8 0 ee F) = b75 (f75 11) (V.mk 8 0 ee F) := rfl
  have e2 : f76 12 (V.mk 8 0 ee F) = b76 (f76 11) (V.mk 8 0 ee F) := rfl
  have e3 : f77 12 (V.mk 8 0 ee F) true = b77 (f77 11) (V.mk 8 0 ee F) true := rfl
  obtain ⟨r, hr, r0, r1⟩ := size_l F 0 1 h (by decide) (by omega)
  obtain ⟨d, hd, d0, d1⟩ := deep_l F 0 0 h (by decide) (by decide)
  rw [e1]
  unfold b75
  dsimp only
  rw [hr]
  simp only [sbr, bso]
  have c1 : decide (r > 2000) = false := decide_eq_false (by omega)
  rw [c1]
  simp only [cond_false]
  rw [e2]
  unfold b76
  dsimp only
  rw [hd]
  simp only [sbr, bso]
  rw [wi (by omega) (by omega)]
  have c2 : decide (d + 1 > 40) = false := decide_eq_false (by omega)
  rw [c2]
  simp only [cond_false]
  rw [e3]
  unfold b77
  dsimp only
  have e4 : f99 (V.mk 8 0 ee F) = some false := by
    unfold f99
    dsimp only
    have q : f127 8 = some false := rfl
    rw [q]
    simp only [beq_self_eq_true, Bool.not_true]
    rfl
  have e5 : f100 (V.mk 8 0 ee F) = some true := rfl
  have e6 : f101 (V.mk 8 0 ee F) = some 0 := by
    unfold f101
    dsimp only
    have c3 : decide (((F.length : Nat) : Int) > 200) = false := decide_eq_false (by omega)
    rw [c3]
    have q : f129 (V.mk 8 0 ee F) = some 0 := by
      unfold f129
      dsimp only
      rw [keys_l F F 0 h]
      rfl
    rw [q]
    rfl
  rw [e4, e5, e6, node_l F 0 h]
  rfl

theorem copy_i {T : Tp} {F : List (ByteArray × V)} (h : ∀ x ∈ F, GE T x) : ∀ (g : Nat) (v : Nat), v + g = F.length → f57_L2 (f57 11) g (v : Int) F = some (.inr F)
  | 0, v, _ => by rw [f57_L2]
  | g + 1, v, e => by
    have hv : v < F.length := by omega
    obtain ⟨x, hx⟩ : ∃ x, F[v]? = some x := ⟨F[v], List.getElem?_eq_getElem hv⟩
    have hG := h x (List.mem_of_getElem? hx)
    obtain ⟨a, ⟨k, n, s, f⟩⟩ := x
    have hc : f57 11 (V.mk k n s f) = some (V.mk k n s f) := hG.cp
    rw [f57_L2, gr_t (by omega), Int.toNat_natCast, Nat.zero_add, gn_t hx]
    simp only [hc, bso]
    rw [gr_t (by omega), gn_t hx]
    simp only
    rw [set_same hx]
    exact copy_i h g (v + 1) (by omega)
theorem copy_l {T : Tp} {F : List (ByteArray × V)} (h : ∀ x ∈ F, GE T x) (hl : F.length ≤ 7) : f57 12 (V.mk 8 0 ee F) = some (V.mk 8 0 ee F) := by
  have e1 : f57 12 (V.mk 8 0 ee F) = b57 (f57 11) (V.mk 8 0 ee F) := rfl
  rw [e1]
  unfold b57 f79
  dsimp only
  rw [gr_t (by omega)]
  simp only [bso]
  rw [gr_t (by omega), show (((F.length : Nat) : Int) - 0).toNat = F.length by omega]
  have := copy_i h F.length 0 (by omega)
  rw [show ((0 : Nat) : Int) = 0 from rfl] at this
  rw [this]
  rfl

theorem itoa_7 : ∀ j : Nat, j < 7 → ∃ s, f1022 (j : Int) = some s := by
  intro j hj
  have : j = 0 ∨ j = 1 ∨ j = 2 ∨ j = 3 ∨ j = 4 ∨ j = 5 ∨ j = 6 := by omega
  rcases this with rfl | rfl | rfl | rfl | rfl | rfl | rfl <;> exact ⟨_, rfl⟩
theorem has_i {T : Tp} : ∀ (F : List (ByteArray × V)) (j : Nat), (∀ x ∈ F, GE T x) → j + F.length ≤ 7 → f1039a_L2 12 [] 8 [(ee, T)] F j = some (.inr ())
  | [], j, _, _ => by rw [f1039a_L2]
  | (a, .mk k n s f) :: t, j, h, hj => by
    simp only [List.length_cons] at hj
    obtain ⟨st, hst⟩ := itoa_7 j (by omega)
    have h1 : f1039 12 [] T (V.mk k n s f) = some ([], true) := (h _ List.mem_cons_self).hs
    obtain ⟨tk, tm, tl, th, tp, ts⟩ := T
    rw [f1039a_L2, gl_0]
    simp only
    rw [hst]
    simp only [show ((8 : Int) == 6) = false from rfl, show ((8 : Int) == 7) = false from rfl, show ((8 : Int) == 8) = true from rfl, cond_true, cond_false, bso, sbr]
    rw [h1]
    simp only [bso, cond_true]
    exact has_i t (j + 1) (fun x hx => h x (List.mem_cons_of_mem _ hx)) (by omega)
abbrev lt (T : Tp) : Tp := Tp.mk 8 ee 0 7 ee [(ee, T)]
theorem has_l {T : Tp} {F : List (ByteArray × V)} (hT : f83 12 [] (lt T) = some 0) (h : ∀ x ∈ F, GE T x) (hl : F.length ≤ 7) : f1042 12 [] (lt T) (V.mk 8 0 ee F) = some true := by
  unfold f1042
  dsimp only
  rw [check_l h hl]
  simp only [bso]
  have e : f1038 12 [] (lt T) (V.mk 8 0 ee F) = some (true, [], 0) := by
    unfold f1038
    dsimp only
    rw [hT, check_l h hl]
    simp only [bso]
    have e2 : f1039a 12 [] (lt T) (V.mk 8 0 ee F) = some ([], true) := by
      unfold f1039a
      dsimp only
      have r : f84 12 [] (lt T) = some (lt T, 0) := rfl
      rw [r]
      simp only [bso]
      have q : f1040 (lt T) (V.mk 8 0 ee F) = some true := by
        unfold f1040
        dsimp only
        have c1 : decide (((F.length : Nat) : Int) ≥ 0) = true := decide_eq_true (by omega)
        have c2 : decide (((F.length : Nat) : Int) ≤ 7) = true := decide_eq_true (by omega)
        rw [c1, c2]
        rfl
      rw [q]
      simp only [bso, cond_true]
      rw [has_i F 0 h (by omega)]
      rfl
    rw [e2]
    rfl
  rw [e]
  rfl
end Go.Clap
