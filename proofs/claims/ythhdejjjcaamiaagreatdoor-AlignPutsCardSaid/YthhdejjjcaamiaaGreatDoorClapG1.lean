/- Short words for the printed texts. -/
import Derived.Test.YthhdejjjcaamiaaGreatDoorClapG0
namespace Go.Clap
abbrev eV (i : Id) (l : List (C TT)) : Id × Option (Ent TT) := (i, some (.var l))
abbrev eR (c : Cd) (l : List (CU c)) : Option (Ent TT) := some (.row false c l)
abbrev pT (n : Nat) : Nat × D TT := (n, pS n)
abbrev ld (n : Opd TT) : IOp TT := .load n 1 false
abbrev qm (d : Nat) (x : Opd TT) : Ins TT := qo d (.mv x)
abbrev sr (l : List (Ins TT)) (c : IC TT) : IC TT := .seq (.reg l) c
section
variable {α β τ ο : Type}
theorem ss {v : α} {R : α → Prop} (h : sat (some v) R) : R v := sat_some h
theorem sb {m : Option α} {f : α → Option β} {R : β → Prop} (h : sat (m.bind f) R) : sat m fun r => sat (f r) R := sat_bind h
theorem ct {A B : Option α} {R : α → Prop} (h : sat (cond true A B) R) : sat A R := h
theorem cf {A B : Option α} {R : α → Prop} (h : sat (cond false A B) R) : sat B R := h
theorem sc {A : Option (Sum τ ο)} {K : ο → Option τ} {R : τ → Prop} (h : sat (sbind A K) R) :
    ∃ R1 : Sum τ ο → Prop, sat A R1 ∧ (∀ t, R1 (.inl t) → R t) ∧ ∀ o, R1 (.inr o) → sat (K o) R := sat_sbind h
end
end Go.Clap
