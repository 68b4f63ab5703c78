/- The checks of the small code against the loaded functions. -/
import Derived.Test.YtnielhfaioakkaaGreatClapZ1
set_option linter.unusedVariables false
set_option linter.unusedSimpArgs false
namespace Go.Clap
section
variable {α β τ ο : Type}
theorem i_bind {m : Option α} {f : α → Option β} {R : β → Prop} (h : sat m fun r => sat (f r) R) : sat (m.bind f) R := by
 obtain ⟨r, rfl, s, h, hR⟩ := h
 exact ⟨s, h, hR⟩
theorem i_call {m : Option α} {f : α → Option β} {Q : α → Prop} {R : β → Prop} (h : sat m Q) (k : ∀ r, Q r → sat (f r) R) : sat (m.bind f) R := i_bind (sat_mono h k)
theorem i_cond {c : Bool} {A B : Option α} {R : α → Prop} (h : c = true → sat A R) (k : c = false → sat B R) : sat (cond c A B) R := by
 cases c
 · exact k rfl
 · exact h rfl
theorem i_grdP {p : Prop} [Decidable p] {m : Option α} {R : α → Prop} (hp : p) (h : sat m R) : sat (grdP p m) R := by
 unfold grdP
 rw [if_pos hp]
 exact h
theorem i_getN {xs : List α} {i : Nat} {f : α → Option β} {R : β → Prop} (hi : i < xs.length) (h : ∀ u, u ∈ xs → xs[i]? = some u → sat (f u) R) : sat (getN xs i f) R := by
 unfold getN
 rw [List.getElem?_eq_getElem hi]
 exact h _ (List.getElem_mem hi) (List.getElem?_eq_getElem hi)
theorem i_getL {xs : List α} {i : Int} {f : α → Option β} {R : β → Prop} (h0 : 0 ≤ i) (hi : i < xs.length) (h : ∀ u, u ∈ xs → xs[i.toNat]? = some u → sat (f u) R) : sat (getL xs i f) R := by
 unfold getL
 rw [if_pos h0, List.getElem?_eq_getElem (by omega)]
 exact h _ (List.getElem_mem (by omega)) (List.getElem?_eq_getElem (by omega))
theorem i_lft {m : Option τ} {R : Sum τ ο → Prop} (h : sat m fun t => R (.inl t)) : sat (lft m) R := by
 obtain ⟨r, rfl, h⟩ := h
 exact ⟨_, rfl, h⟩
theorem i_sbind {A : Option (Sum τ ο)} {K : ο → Option τ} {R : τ → Prop} (h : sat A fun o => match o with | .inl t => R t | .inr o => sat (K o) R) : sat (sbind A K) R := by
 obtain ⟨r, rfl, h⟩ := h
 cases r with
 | inl t => exact ⟨t, rfl, h⟩
 | inr o => exact h
end
theorem wrap_id {x : Int} (h0 : -9223372036854775808 ≤ x) (h1 : x ≤ 9223372036854775807) : IntKind.wrap .i64 x = x := wrap_lt h0 h1
theorem next_tot (k : Int) (l : List Int) (h : k ≤ 4611686018427387904) : sat (f15 k l) fun r => 0 ≤ r.1 ∧ (r.1 < k ∨ r.1 = 0) := by
 unfold f15
 refine i_cond (fun _ => sat_mk ⟨Int.le_refl _, .inr rfl⟩) (fun hk => ?_)
 have hk : ¬ k < 1 := by simpa using hk
 refine i_cond (fun _ => sat_mk ⟨Int.le_refl _, .inr rfl⟩) (fun hl => ?_)
 have hl : l.length ≠ 0 := by simp at hl; simpa using hl
 refine i_getL (Int.le_refl _) (by omega) fun u _ _ => ?_
 refine i_grdP ⟨by omega, by simp; omega, Nat.le_refl _⟩ ?_
 refine i_bind ?_
 unfold f26
 have h1 : (Int.tmod u k) < k := Int.tmod_lt_of_pos _ (by omega)
 have h2 : -k < (Int.tmod u k) := by
  have := Int.lt_tmod_of_pos u (show 0 < k by omega)
  omega
 refine i_grdP (by omega) (i_cond (fun hn => sat_mk (sat_mk ?_)) (fun hn => sat_mk (sat_mk ?_)))
 · have hn : (Int.tmod u k) < 0 := by simpa using hn
   rw [wrap_id (by omega) (by omega)]
   exact ⟨by show 0 ≤ Int.tmod u k + k; omega, .inl (by show Int.tmod u k + k < k; omega)⟩
 · have hn : ¬ (Int.tmod u k) < 0 := by simpa using hn
   exact ⟨by show 0 ≤ Int.tmod u k; omega, .inl h1⟩
theorem pickI_tot (xs : List Int) (l : List Int) (h : xs ≠ []) (hl : xs.length ≤ 1000) : sat (f60 xs l) fun r => r.1 ∈ xs := by
 have := List.length_pos_iff.2 h
 unfold f60
 refine i_call (next_tot _ l (by omega)) fun r hr => ?_
 exact i_getL hr.1 (by omega) fun u hu _ => sat_mk hu
theorem pickS_tot (xs : List ByteArray) (l : List Int) (h : xs ≠ []) (hl : xs.length ≤ 1000) : sat (f61 xs l) fun r => r.1 ∈ xs := by
 have := List.length_pos_iff.2 h
 unfold f61
 refine i_call (next_tot _ l (by omega)) fun r hr => ?_
 exact i_getL hr.1 (by omega) fun u hu _ => sat_mk hu
theorem pickT_tot (xs : List Tp) (l : List Int) (h : xs ≠ []) (hl : xs.length ≤ 1000) : sat (f40 xs l) fun r => r.1 ∈ xs := by
 have := List.length_pos_iff.2 h
 unfold f40
 refine i_call (next_tot _ l (by omega)) fun r hr => ?_
 exact i_getL hr.1 (by omega) fun u hu _ => by obtain ⟨⟩ := u; exact sat_mk hu
theorem fieldName_tot (v : Int) : sat (f62 v) fun _ => True := by
 unfold f62 f26
 have h1 : (Int.tmod v 8) < 8 := Int.tmod_lt_of_pos _ (by omega)
 have h2 : -8 < (Int.tmod v 8) := Int.lt_tmod_of_pos v (by omega)
 refine i_bind (i_grdP (by omega) (i_cond (fun hn => sat_mk ?_) (fun hn => sat_mk ?_)))
 · have hn : (Int.tmod v 8) < 0 := by simpa using hn
   rw [wrap_id (by omega) (by omega)]
   exact i_getL (by omega) (by simp; omega) fun u _ _ => sat_mk trivial
 · have hn : ¬ (Int.tmod v 8) < 0 := by simpa using hn
   exact i_getL (by omega) (by simp; omega) fun u _ _ => sat_mk trivial
end Go.Clap
