/- The checks of the small code against the loaded functions. -/
import Derived.Test.YtnjgakngmbbmfaaGreatDoorClapG0
set_option linter.unusedVariables false
set_option linter.unusedSimpArgs false
namespace Go.Clap
section
variable {α β τ ο : Type}
theorem i_bind {m : Option α} {f : α → Option β} {R : β → Prop} (h : sat m fun r => sat (f r) R) : sat (m.bind f) R := by
 obtain ⟨r, rfl, s, h, hR⟩ := h
 exact ⟨s, h, hR⟩
theorem i_call {m : Option α} {f : α → Option β} {Q : α → Prop} {R : β → Prop} (h : sat m Q) (k : ∀ r, Q r → sat (f r) R) : sat (m.bind f) R := i_bind (sat_mono h k)
theorem i_cond {c : Bool} {A B : Option α} {R : α → Prop} (h : c = true → sat A R) (k : c = false → sat B R) : sat (cond c A B) R := by
 cases c
 · exact k rfl
 · exact h rfl
theorem i_grdP {p : Prop} [Decidable p] {m : Option α} {R : α → Prop} (hp : p) (h : sat m R) : sat (grdP p m) R := by
 unfold grdP
 rw [if_pos hp]
 exact h
theorem i_getN {xs : List α} {i : Nat} {f : α → Option β} {R : β → Prop} (hi : i < xs.length) (h : ∀ u, u ∈ xs → xs[i]? = some u → sat (f u) R) : sat (getN xs i f) R := by
 unfold getN
 rw [List.getElem?_eq_getElem hi]
 exact h _ (List.getElem_mem hi) (List.getElem?_eq_getElem hi)
theorem i_getL {xs : List α} {i : Int} {f : α → Option β} {R : β → Prop} (h0 : 0 ≤ i) (hi : i < xs.length) (h : ∀ u, u ∈ xs → xs[i.toNat]? = some u → sat (f u) R) : sat (getL xs i f) R := by
 unfold getL
 rw [if_pos h0, List.getElem?_eq_getElem (by omega)]
 exact h _ (List.getElem_mem (by omega)) (List.getElem?_eq_getElem (by omega))
theorem i_lft {m : Option τ} {R : Sum τ ο → Prop} (h : sat m fun t => R (.inl t)) : sat (lft m) R := by
 obtain ⟨r, rfl, h⟩ := h
 exact ⟨_, rfl, h⟩
theorem i_sbind {A : Option (Sum τ ο)} {K : ο → Option τ} {R : τ → Prop} (h : sat A fun o => match o with | .inl t => R t | .inr o => sat (K o) R) : sat (sbind A K) R := by
 obtain ⟨r, rfl, h⟩ := h
 cases r with
 | inl t => exact ⟨t, rfl, h⟩
 | inr o => exact h
end
theorem wrap_id {x : Int} (h0 : -9223372036854775808 ≤ x) (h1 : x ≤ 9223372036854775807) : IntKind.wrap .i64 x = x := wrap_lt h0 h1
end Go.Clap
