/- types.Check, Right, resolve, Copy, Resolve at the makers' types and schemas. -/
import Derived.Test.YtnielhfaioakkaaClapL4
set_option linter.unusedVariables false
set_option linter.unusedSimpArgs false
namespace Go.Clap

def zT : Tp := .mk 0 e0 0 0 e0 []
def kindT : Tp → Int | .mk k _ _ _ _ _ => k
theorem resolveL_tot (s : PT) (hs : s.length ≤ 1000) (t : Tp) : ∀ (g : Nat) (v : Int) (k : Int) (m : ByteArray) (lo hi : Int) (p : ByteArray) (ps : PT), (Tp.mk k m lo hi p ps = t ∨ ∃ d, d ∈ s ∧ Tp.mk k m lo hi p ps = d.2) →
    sat (f84_resolve_L2 s g v k m lo hi p ps) fun o => o = .inr () ∨ ∃ r, o = .inl r ∧ ((r.2 ≠ 0 ∧ r.1 = zT) ∨ (r.2 = 0 ∧ kindT r.1 ≠ 10 ∧ (r.1 = t ∨ ∃ d, d ∈ s ∧ r.1 = d.2)))
  | 0, v, k, m, lo, hi, p, ps, h => sat_mk (.inl rfl)
  | g + 1, v, k, m, lo, hi, p, ps, h => by
    refine i_cond (fun hk => i_lft (sat_mk (.inr ⟨_, rfl, .inr ⟨rfl, ?_, h⟩⟩))) (fun _ => i_call (find_tot s m) fun i hi' => i_cond (fun _ => i_lft (sat_mk (.inr ⟨_, rfl, .inl ⟨by decide, rfl⟩⟩))) (fun hn => ?_))
    · simpa [kindT] using hk
    · have hn : ¬ i < 0 := by simpa using hn
      refine i_getL (by omega) (by omega) fun u hu _ => ?_
      obtain ⟨a, ⟨k1, m1, lo1, hi1, p1, ps1⟩⟩ := u
      exact resolveL_tot s hs t g _ _ _ _ _ _ _ (.inr ⟨_, hu, rfl⟩)
theorem resolve_tot (s : PT) (hs : s.length ≤ 1000) (t : Tp) : sat (f84_resolve s t) fun r => (r.2 ≠ 0 ∧ r.1 = zT) ∨ (r.2 = 0 ∧ kindT r.1 ≠ 10 ∧ (r.1 = t ∨ ∃ d, d ∈ s ∧ r.1 = d.2)) := by
  obtain ⟨k, m, lo, hi, p, ps⟩ := t
  unfold f84_resolve
  refine i_sbind (i_grdP ?_ (sat_mono (resolveL_tot s hs _ _ _ _ _ _ _ _ _ (.inl rfl)) ?_))
  · rw [wrap_id (by omega) (by omega)]; omega
  · rintro o (rfl | ⟨r, rfl, h⟩)
    · exact sat_mk (.inl ⟨by decide, rfl⟩)
    · exact h
theorem Checks_tot (s : PT) (hs : s.length ≤ 1000) (hd : ∀ d, d ∈ s → Pk 3 d.2) (n : Nat) : sat (f105_Check (n + 310) s) fun _ => True := by
  unfold f105_Check
  have h2 : ∀ (l : PT) (j : Nat), sat (f105_Check_L2 s l j) fun _ => True := by
    intro l
    induction l with
    | nil => intro j; exact sat_mk trivial
    | cons x tl ih =>
      intro j
      obtain ⟨a, ⟨k1, m1, lo1, hi1, p1, ps1⟩⟩ := x
      exact i_call (Name_tot a) fun _ _ => i_cond (fun _ => i_call (find_tot s a) fun _ _ => i_cond (fun _ => i_lft (sat_mk trivial)) (fun _ => ih _)) (fun _ => i_lft (sat_mk trivial))
  have h4 : ∀ (l : PT) (j : Nat), (∀ x, x ∈ l → x ∈ s) → sat (f105_Check_L4 (n + 310) s l j) fun _ => True := by
    intro l
    induction l with
    | nil => intro j _; exact sat_mk trivial
    | cons x tl ih =>
      intro j hx
      obtain ⟨a, ⟨k1, m1, lo1, hi1, p1, ps1⟩⟩ := x
      exact i_call (right_tot s 3 (by omega) _ (hd (a, .mk k1 m1 lo1 hi1 p1 ps1) (hx _ (by simp))) n) fun _ _ => i_cond (fun _ => i_lft (sat_mk trivial)) (fun _ => ih _ fun x hm => hx x (by simp [hm]))
  have h6 : ∀ (l : PT) (j : Nat), sat (f105_Check_L6 s l j) fun _ => True := by
    intro l
    induction l with
    | nil => intro j; exact sat_mk trivial
    | cons x tl ih =>
      intro j
      obtain ⟨a, ⟨k1, m1, lo1, hi1, p1, ps1⟩⟩ := x
      refine i_call (resolve_tot s hs _) fun r _ => ?_
      obtain ⟨⟨k2, m2, lo2, hi2, p2, ps2⟩, e⟩ := r
      exact i_cond (fun _ => i_lft (sat_mk trivial)) (fun _ => ih _)
  refine i_cond (fun _ => sat_mk trivial) (fun _ => i_sbind (sat_mono (h2 s 0) ?_))
  rintro (o | o) _
  · trivial
  refine i_sbind (sat_mono (h4 s 0 fun x hx => hx) ?_)
  rintro (o | o) _
  · trivial
  refine i_sbind (sat_mono (h6 s 0) ?_)
  rintro (o | o) _
  · trivial
  · exact sat_mk trivial
theorem Right_tot (s : PT) (hs : s.length ≤ 1000) (hd : ∀ d, d ∈ s → Pk 3 d.2) (k : Nat) (hk : k ≤ 10) (t : Tp) (h : Pk k t) (n : Nat) : sat (f83_Right (n + 310) s t) fun _ => True := by
  have h1 := Checks_tot s hs hd n
  have h2 := right_tot s k hk t h n
  obtain ⟨kd, nm, lo, hi, p, ps⟩ := t
  unfold f83_Right
  exact i_call h1 fun _ _ => i_cond (fun _ => sat_mk trivial) (fun _ => i_call h2 fun _ _ => sat_mk trivial)

theorem Copy_id : ∀ (n k : Nat) (hk : k ≤ n) (t : Tp) (h : Pk k t), f85_Copy n t = some t
  | 0, k, hk, t, h => by cases h; omega
  | n + 1, k, hk, t, h => by
    cases h with
    | mk kd nm lo hi p ps h1 h2 h =>
    rename_i k
    have hL : ∀ (g i : Nat), i + g = ps.length → f85_Copy_L2 (f85_Copy n) g (i : Int) ps = some (.inr ps) := by
      intro g
      induction g with
      | zero => intro i hi; rfl
      | succ g ih =>
        intro i hi
        have hi' : i < ps.length := by omega
        have hc := Copy_id n k (by omega) (ps[i]).2 (h _ (List.getElem_mem hi'))
        have hg : ps[0 + ((i : Nat) : Int).toNat]? = some ps[i] := by
          rw [Nat.zero_add, Int.toNat_natCast]
          exact List.getElem?_eq_getElem hi'
        have hset : ps.set (0 + ((i : Nat) : Int).toNat) ps[i] = ps := by
          rw [Nat.zero_add, Int.toNat_natCast]
          exact List.set_getElem_self hi'
        generalize ps[i] = x at hc hg hset
        obtain ⟨a, ⟨k1, m1, lo1, hi1, p1, ps1⟩⟩ := x
        unfold f85_Copy_L2
        have hc : f85_Copy n (.mk k1 m1 lo1 hi1 p1 ps1) = some (.mk k1 m1 lo1 hi1 p1 ps1) := hc
        have hp : (0 : Int) ≤ (i : Int) ∧ (i : Int) < ((ps.length : Nat) : Int) := by omega
        simp only [grdP, getN, hg, hc, Option.bind_some, if_pos hp, hset]
        have := ih (i + 1) (by omega)
        rw [Int.natCast_succ] at this
        exact this
    show b85_Copy (f85_Copy n) (.mk kd nm lo hi p ps) = _
    unfold b85_Copy f108_Clone
    have h0 := hL ps.length 0 (by omega)
    have e : (((ps.length : Nat) : Int) - 0).toNat = ps.length := by omega
    have hb : ((ps.length : Nat) : Int) ≤ 9223372036854775807 := by omega
    simp only [grdP, if_pos (show ps.length ≤ 68719476736 by omega), Option.bind_some, if_pos hb, e, Int.natCast_zero ▸ h0, sbind]

/-- types.Resolve at a type of the makers. -/
theorem Resolve_tot (s : PT) (hs : s.length ≤ 1000) (hd : ∀ d, d ∈ s → Pk 3 d.2) (k : Nat) (hk : k ≤ 10) (t : Tp) (h : Pk k t) (n : Nat) :
    sat (f66_Resolve (n + 310) s t) fun r => r.2 ≠ 0 ∨ (kindT r.1 ≠ 10 ∧ (r.1 = t ∨ ∃ d, d ∈ s ∧ r.1 = d.2)) := by
  have h1 := Right_tot s hs hd k hk t h n
  have h2 := resolve_tot s hs t
  obtain ⟨kd, nm, lo, hi, p, ps⟩ := t
  unfold f66_Resolve
  refine i_call h1 fun e _ => i_cond (fun he => sat_mk (.inl (by simpa using he))) (fun _ => i_call h2 fun r hr => ?_)
  have hc : f85_Copy (n + 310) r.1 = some r.1 := by
    rcases hr with ⟨_, hz⟩ | ⟨_, _, hz | ⟨d, hd', hz⟩⟩
    · rw [hz]; exact Copy_id _ 1 (by omega) _ (.mk _ _ _ _ _ _ (by simp) (by omega) (by simp))
    · rw [hz]; exact Copy_id _ k (by omega) _ h
    · rw [hz]; exact Copy_id _ 3 (by omega) _ (hd d hd')
  obtain ⟨⟨k2, m2, lo2, hi2, p2, ps2⟩, e2⟩ := r
  have hc : f85_Copy (n + 310) (.mk k2 m2 lo2 hi2 p2 ps2) = some (.mk k2 m2 lo2 hi2 p2 ps2) := hc
  refine i_call (Q := fun r => r = .mk k2 m2 lo2 hi2 p2 ps2) ⟨_, hc, rfl⟩ fun r he => ?_
  subst he
  refine sat_mk ?_
  rcases hr with ⟨he, _⟩ | ⟨_, h1, h2⟩
  · exact .inl he
  · exact .inr ⟨h1, h2⟩
end Go.Clap
