/- law.single: an answer at every type of the makers; true only where there is one value. -/
import Derived.Test.YtnielhfaioakkaaClapL8
set_option linter.unusedVariables false
set_option linter.unusedSimpArgs false
namespace Go.Clap
abbrev SG := PT → Tp → Int → Option Bool
theorem sgL6 (self : SG) (s : PT) (d : Int) (Px : ByteArray × Tp → Prop) : ∀ (l : PT) (j : Nat), (∀ x, x ∈ l → sat (self s x.2 (IntKind.wrap .i64 (d - 1))) fun q => q = true → Px x) →
    sat (f43_single_L6 self s d l j) fun o => (o = .inr () ∧ ∀ x, x ∈ l → Px x) ∨ o = .inl (.inl false)
  | [], j, h => sat_mk (.inl ⟨rfl, by simp⟩)
  | (a, .mk k m lo hi p ps) :: tl, j, h => by
    refine i_call (h _ List.mem_cons_self) fun q hq => i_cond (fun c => sat_mono (sgL6 self s d Px tl (j + 1) fun x hx => h x (List.mem_cons_of_mem _ hx)) ?_) (fun _ => i_lft (i_lft (sat_mk (.inr rfl))))
    rintro o (⟨h1, h2⟩ | h1)
    · refine .inl ⟨h1, fun x hx => ?_⟩
      rcases List.mem_cons.1 hx with rfl | hx
      · exact hq c
      · exact h2 x hx
    · exact .inr h1
theorem sgL8 (self : SG) (s : PT) (d : Int) (Px : ByteArray × Tp → Prop) : ∀ (l : PT) (j : Nat), (∀ x, x ∈ l → sat (self s x.2 (IntKind.wrap .i64 (d - 1))) fun q => q = true → Px x) →
    sat (f43_single_L8 self s d l j) fun o => (o = .inr () ∧ ∀ x, x ∈ l → Px x) ∨ o = .inl (.inl false)
  | [], j, h => sat_mk (.inl ⟨rfl, by simp⟩)
  | (a, .mk k m lo hi p ps) :: tl, j, h => by
    refine i_call (h _ List.mem_cons_self) fun q hq => i_cond (fun c => sat_mono (sgL8 self s d Px tl (j + 1) fun x hx => h x (List.mem_cons_of_mem _ hx)) ?_) (fun _ => i_lft (i_lft (sat_mk (.inr rfl))))
    rintro o (⟨h1, h2⟩ | h1)
    · refine .inl ⟨h1, fun x hx => ?_⟩
      rcases List.mem_cons.1 hx with rfl | hx
      · exact hq c
      · exact h2 x hx
    · exact .inr h1
def SB (s : PT) (self : SG) (d : Int) (Pr : Prop) : Tp → Prop
  | .mk k m lo hi p ps =>
    (k = 0 → Pr) ∧ (k = 1 ∨ k = 2 ∨ k = 4 → lo = hi → Pr) ∧ (k = 5 → isPat p) ∧ (k = 8 ∨ k = 9 → hi = 0 → Pr) ∧
    (k = 8 → lo = hi → ∃ x, ps = [x] ∧ sat (self s x.2 (IntKind.wrap .i64 (d - 1))) fun q => q = true → Pr) ∧
    (k = 7 → ∀ x, ps = [x] → sat (self s x.2 (IntKind.wrap .i64 (d - 1))) fun q => q = true → Pr) ∧
    (k = 6 → ∃ Px : ByteArray × Tp → Prop, (∀ x, x ∈ ps → sat (self s x.2 (IntKind.wrap .i64 (d - 1))) fun q => q = true → Px x) ∧ ((∀ x, x ∈ ps → Px x) → Pr))
theorem pat_single {p : ByteArray} (h : isPat p) (n : Nat) : ∃ w w2, f67_Least (n + 300) p = some (w, 0) ∧ 2 * w.size ≤ 1000 ∧ f68_Includes (n + 300) p ⟨(quoteL w.data.toList).toArray⟩ = some (false, w2, 0) := by
  rcases h with rfl | rfl | rfl | rfl | rfl
  · obtain ⟨w, hw⟩ := inc_p0 n; exact ⟨_, w, lea_p0 n, by decide, hw⟩
  · obtain ⟨w, hw⟩ := inc_p1 n; exact ⟨_, w, lea_p1 n, by decide, hw⟩
  · obtain ⟨w, hw⟩ := inc_p2 n; exact ⟨_, w, lea_p2 n, by decide, hw⟩
  · obtain ⟨w, hw⟩ := inc_p3 n; exact ⟨_, w, lea_p3 n, by decide, hw⟩
  · obtain ⟨w, hw⟩ := inc_p4 n; exact ⟨_, w, lea_p4 n, by decide, hw⟩
theorem i_test3 {τ : Type} {A B : Bool} {K : Bool → Option τ} {R : τ → Prop} (h : ∀ b, (b = true → A = true ∨ B = true) → (b = false → A = false ∧ B = false) → sat (K b) R) :
    sat (sbind (cond A (some (.inr true)) (cond B (some (.inr true)) (some (.inr false)))) K) R := by
  refine i_sbind ?_
  cases A <;> cases B
  · exact sat_mk (h false (by simp) (by simp))
  · exact sat_mk (h true (by simp) (by simp))
  · exact sat_mk (h true (by simp) (by simp))
  · exact sat_mk (h true (by simp) (by simp))
theorem single_body (s : PT) (self : SG) (n : Nat) (d : Int) (t : Tp) (Pr : Prop) (hr : sat (f66_Resolve (n + 310) s t) fun r => r.2 ≠ 0 ∨ SB s self d Pr r.1) :
    sat (b43_single (n + 310) self s t d) fun q => q = true → Pr := by
  have no : sat (some false) fun q : Bool => q = true → Pr := sat_mk (fun h => by cases h)
  obtain ⟨k0, m0, lo0, hi0, p0, ps0⟩ := t
  refine i_call hr fun r hv => ?_
  obtain ⟨⟨k, m, lo, hi, p, ps⟩, er⟩ := r
  refine i_cond (fun _ => no) (fun he => i_cond (fun _ => no) (fun _ => ?_))
  have hv : SB s self d Pr (.mk k m lo hi p ps) := by
    rcases hv with h | h
    · exact absurd (by simpa using he) h
    · exact h
  obtain ⟨v0, v1, v5, v89, v8, v7, v6⟩ := hv
  refine i_sbind (sat_mono (R := fun o : Sum Bool Unit => o = .inl true → Pr) ?_ ?_)
  case refine_2 =>
    rintro (b | b) hb
    · exact fun h => hb (by rw [h])
    · exact no
  have nol : sat (lft (some false) : Option (Sum Bool Unit)) fun o : Sum Bool Unit => o = .inl true → Pr := i_lft (sat_mk fun h => by cases h)
  have yes : Pr → sat (lft (some true) : Option (Sum Bool Unit)) fun o : Sum Bool Unit => o = .inl true → Pr := fun hp => i_lft (sat_mk fun _ => hp)
  refine i_cond (fun c => yes (v0 (by simpa using c))) (fun _ => ?_)
  refine i_sbind (sat_mono (R := fun o => ∃ q, o = .inr q ∧ (q = true → k = 1 ∨ k = 2 ∨ k = 4)) ?_ ?_)
  · refine i_cond (fun c => sat_mk ⟨_, rfl, fun _ => .inl (by simpa using c)⟩) (fun _ => i_cond (fun c => sat_mk ⟨_, rfl, fun _ => .inr (.inl (by simpa using c))⟩) (fun _ => i_cond (fun c => sat_mk ⟨_, rfl, fun _ => .inr (.inr (by simpa using c))⟩) (fun _ => sat_mk ⟨_, rfl, fun h => by cases h⟩)))
  rintro _ ⟨q, rfl, hq⟩
  refine i_cond (fun c => i_cond (fun c2 => yes (v1 (hq c) (by simpa using c2))) (fun _ => nol)) (fun _ => i_cond (fun c => ?_) (fun _ => ?_))
  · obtain ⟨w, w2, h1, h2, h3⟩ := pat_single (v5 (by simpa using c)) (n + 10)
    refine i_call (Q := fun r => r = (w, 0)) ⟨_, h1, rfl⟩ fun r hr => ?_
    subst hr
    refine i_cond (fun h => by cases h) (fun _ => ?_)
    refine i_call (Q := fun r => r = ⟨(quoteL w.data.toList).toArray⟩) (i_grdP (by omega) (sat_mk rfl)) fun r hr => ?_
    subst hr
    refine i_call (Q := fun r => r = (false, w2, 0)) ⟨_, h3, rfl⟩ fun r hr => ?_
    subst hr
    exact i_cond (fun _ => nol) (fun _ => nol)
  refine i_test3 fun b hb1 hb0 => i_cond (fun c => ?_) (fun _ => ?_)
  · have hk : k = 8 ∨ k = 9 := by simpa using hb1 c
    refine i_cond (fun h => yes (v89 hk (by simpa using h))) (fun _ => i_cond (fun h8 => i_cond (fun hlh => ?_) (fun _ => nol)) (fun _ => nol))
    obtain ⟨x, rfl, hx⟩ := v8 (by simpa using h8) (by simpa using hlh)
    refine i_getL (Int.le_refl _) (by simp) fun u hu _ => ?_
    obtain rfl := List.mem_singleton.1 hu
    obtain ⟨a, ⟨k1, m1, lo1, hi1, p1, ps1⟩⟩ := u
    exact i_call hx fun q hq => i_lft (sat_mk fun h => hq (by simpa using h))
  refine i_test3 fun b hb1 hb0 => i_cond (fun c => ?_) (fun _ => sat_mk fun h => by cases h)
  have hk : k = 6 ∨ k = 7 := by simpa using hb1 c
  refine i_cond (fun c7 => ?_) (fun c7 => ?_)
  · refine i_cond (fun _ => nol) (fun hl => ?_)
    have hl : ps.length = 1 := by simp at hl; omega
    obtain ⟨x, rfl⟩ := List.length_eq_one_iff.1 hl
    refine i_sbind (sat_mono (sgL8 self s d (fun _ => Pr) [x] 0 fun y hy => by obtain rfl := List.mem_singleton.1 hy; exact v7 (by simpa using c7) _ rfl) ?_)
    rintro o (⟨rfl, h⟩ | rfl)
    · exact yes (h x List.mem_cons_self)
    · exact fun h => by cases h
  · have h6 : k = 6 := by simp at c7; omega
    obtain ⟨Px, hx, hp⟩ := v6 h6
    refine i_sbind (sat_mono (sgL6 self s d Px ps 0 hx) ?_)
    rintro o (⟨rfl, h⟩ | rfl)
    · exact yes (hp h)
    · exact fun h => by cases h
theorem sg_plain {s : PT} (hs : Sch s) (k : Nat) (hk : k ≤ 10) (t : Tp) (h : Pk k t) (h10 : kindT t ≠ 10) (n : Nat) (d : Int) (Pr : Prop) (hb : SB s (f43_single (n + 310)) d Pr t) : sat (f43_single (n + 311) s t d) fun q => q = true → Pr :=
  single_body s (f43_single (n + 310)) n d t Pr (sat_mono (Resolve_plain s (by have := hs.length; omega) hs.pk k hk t h h10 n) fun r hr => by
    rcases hr with h | h
    · exact .inl h
    · rw [h]; exact .inr hb)
theorem sg_digit {s : PT} (hs : Sch s) (n : Nat) (d : Int) : sat (f43_single (n + 311) s (.mk 2 e0 0 9 e0 []) d) fun q => q = true → False :=
  sg_plain hs 1 (by omega) _ (.mk _ _ _ _ _ _ (by simp) (by omega) (by simp)) (by decide) n d False ⟨by omega, by omega, by omega, by omega, by omega, by omega, by omega⟩
theorem sg_kids {s : PT} (hs : Sch s) (n : Nat) (d : Int) : sat (f43_single (n + 311) s (.mk 8 e0 0 2 e0 [(e0, .mk 10 ⟨#[116, 114, 101, 101]⟩ 0 0 e0 [])]) d) fun q => q = true → False :=
  sg_plain hs 2 (by omega) _ (.mk _ _ _ _ _ _ (by simp) (by omega) (by
    intro x hx
    obtain rfl := List.mem_singleton.1 hx
    exact .mk _ _ _ _ _ _ (by simp) (by omega) (by simp))) (by decide) n d False ⟨by omega, by omega, by omega, by omega, by omega, by omega, by omega⟩
theorem sg_named {s : PT} (hs : Sch s) (n : Nat) (nm : ByteArray) (d : Int) : sat (f43_single (n + 312) s (.mk 10 nm 0 0 e0 []) d) fun q => q = true → False := by
  refine single_body s (f43_single (n + 311)) (n + 1) d _ False (sat_mono (Resolve_tot s (by have := hs.length; omega) hs.pk 1 (by omega) _ (.mk _ _ _ _ _ _ (by simp) (by omega) (by simp)) (n + 1)) ?_)
  rintro r (h | ⟨h10, h⟩)
  · exact .inl h
  rcases h with h | ⟨x, hx, h⟩
  · rw [h] at h10; exact absurd rfl h10
  refine .inr ?_
  rw [h]
  rcases hs.mem hx with rfl | rfl | rfl | rfl
  · refine ⟨by omega, by omega, by omega, by omega, by omega, by omega, fun _ => ⟨fun _ => False, ?_, fun h => h _ List.mem_cons_self⟩⟩
    intro x hx
    simp only [List.mem_cons, List.not_mem_nil, or_false] at hx
    rcases hx with rfl | rfl
    · exact sg_digit hs n _
    · exact sg_kids hs n _
  · exact ⟨by omega, by omega, by omega, by omega, by omega, fun _ x hx => by simp at hx, by omega⟩
  · exact ⟨by omega, by omega, by omega, by omega, by omega, by omega, by omega⟩
  · exact ⟨by omega, by omega, fun _ => .inr (.inl rfl), by omega, by omega, by omega, by omega⟩
theorem single_good {s : PT} (hs : Sch s) {k : Nat} {t : Tp} (h : Good s k t) (hk3 : k ≤ 8) : ∀ (n : Nat) (d : Int), sat (f43_single (n + 312 + k) s t d) fun q => q = true → ∃ v, Cst s k t v := by
  have hl := hs.length
  have hpk := h.pk
  induction h with
  | @leaf k t h =>
    intro n d
    have e : n + 312 + k = n + 1 + k + 311 := by omega
    rw [e]
    cases h with
    | named x hx =>
      have e : n + 1 + k + 311 = n + k + 312 := by omega
      rw [e]
      exact sat_mono (sg_named hs (n + k) x.1 d) fun q hq h => (hq h).elim
    | unit => exact sg_plain hs _ (by omega) _ hpk (by decide) _ d _ ⟨fun _ => ⟨_, cst_unit (by omega) k⟩, by omega, by omega, by omega, by omega, by omega, by omega⟩
    | num kd lo hi hk h0 h1 h2 => exact sg_plain hs _ (by omega) _ hpk (by simp only [kindT]; omega) _ d _ ⟨by omega, fun _ hlh => ⟨_, by subst hlh; exact cst_num (by omega) k kd lo hk h0 h2⟩, by omega, by omega, by omega, by omega, by omega⟩
    | text p h => exact sg_plain hs _ (by omega) _ hpk (by simp [kindT]) _ d _ ⟨by omega, by omega, fun _ => h, by omega, by omega, by omega, by omega⟩
    | float => exact sg_plain hs _ (by omega) _ hpk (by decide) _ d _ ⟨by omega, by omega, by omega, by omega, by omega, by omega, by omega⟩
  | @list k t lo hi h g0 g1 g2 ih =>
    intro n d
    have e : n + 312 + (k + 1) = n + k + 2 + 311 := by omega
    have e2 : n + k + 2 + 310 = n + 312 + k := by omega
    rw [e]
    refine sg_plain hs _ (by omega) _ hpk (by simp [kindT]) _ d _ ⟨by omega, by omega, by omega, fun _ h0 => ?_, fun _ hlh => ⟨_, rfl, ?_⟩, by omega, by omega⟩
    · exact ⟨_, cst_list (by omega) k lo hi g0 g1 g2 _ (.mk 0 0 e0 []) ⟨by omega, .inl (by omega)⟩⟩
    · rw [e2]
      exact sat_mono (ih (by omega) h.pk n _) fun q hq hqt => by
        obtain ⟨v, hv⟩ := hq hqt
        exact ⟨_, cst_list (by omega) k lo hi g0 g1 g2 _ v ⟨hlh, .inr hv⟩⟩
  | @map k t lo hi h g0 g1 g3 g2 ih =>
    intro n d
    have e : n + 312 + (k + 1) = n + k + 2 + 311 := by omega
    rw [e]
    exact sg_plain hs _ (by omega) _ hpk (by simp [kindT]) _ d _ ⟨by omega, by omega, by omega, by omega, by omega, by omega, by omega⟩
  | @choice k ps g0 g1 h ih =>
    intro n d
    have e : n + 312 + (k + 1) = n + k + 2 + 311 := by omega
    have e2 : n + k + 2 + 310 = n + 312 + k := by omega
    rw [e]
    refine sg_plain hs _ (by omega) _ hpk (by simp [kindT]) _ d _ ⟨by omega, by omega, by omega, by omega, by omega, fun _ x hx => ?_, by omega⟩
    subst hx
    rw [e2]
    exact sat_mono (ih x List.mem_cons_self (by omega) (h x List.mem_cons_self).pk n _) fun q hq hqt => by
      obtain ⟨v, hv⟩ := hq hqt
      exact ⟨_, cst_choice (by omega) k x v hv⟩
  | @record k ps g1 h ih =>
    intro n d
    have e : n + 312 + (k + 1) = n + k + 2 + 311 := by omega
    have e2 : n + k + 2 + 310 = n + 312 + k := by omega
    rw [e]
    refine sg_plain hs _ (by omega) _ hpk (by simp [kindT]) _ d _ ⟨by omega, by omega, by omega, by omega, by omega, by omega, fun _ => ⟨fun x => ∃ v, Cst s k x.2 v, fun x hx => ?_, fun hp => ?_⟩⟩
    · rw [e2]
      exact ih x hx (by omega) (h x hx).pk n _
    · obtain ⟨fs, hf⟩ := Fs.of hp
      exact ⟨_, cst_record (by omega) k ps g1 fs hf⟩

end Go.Clap
