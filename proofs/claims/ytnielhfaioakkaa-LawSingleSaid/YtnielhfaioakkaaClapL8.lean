/- A type that law.Single calls single has one value; law.single gives an answer at every type of the makers. -/
import Derived.Test.YtnielhfaioakkaaClapL7
set_option linter.unusedVariables false
set_option linter.unusedSimpArgs false
namespace Go.Clap

/-! ### resolve at a type that is no name -/
theorem resolve_plain (s : PT) (hs : s.length ≤ 1000) (t : Tp) (h : kindT t ≠ 10) : sat (f84_resolve s t) fun r => r = (t, 0) := by
  obtain ⟨k, m, lo, hi, p, ps⟩ := t
  unfold f84_resolve
  have e : ((IntKind.wrap .i64 (((s.length : Nat) : Int) + 1)) - 0).toNat = s.length + 1 := by rw [wrap_id (by omega) (by omega)]; omega
  refine i_sbind (i_grdP (by rw [wrap_id (by omega) (by omega)]; omega) ?_)
  rw [e]
  refine i_cond (fun _ => i_lft (sat_mk rfl)) (fun hk => absurd ?_ h)
  simpa [kindT] using hk
theorem Resolve_plain (s : PT) (hs : s.length ≤ 1000) (hd : ∀ d, d ∈ s → Pk 3 d.2) (k : Nat) (hk : k ≤ 10) (t : Tp) (h : Pk k t) (h10 : kindT t ≠ 10) (n : Nat) :
    sat (f66_Resolve (n + 310) s t) fun r => r.2 ≠ 0 ∨ r.1 = t := by
  have h1 := Right_tot s hs hd k hk t h n
  have h2 := resolve_plain s hs t h10
  have hc := Copy_id (n + 310) k (by omega) t h
  obtain ⟨kd, nm, lo, hi, p, ps⟩ := t
  unfold f66_Resolve
  refine i_call h1 fun e _ => i_cond (fun he => sat_mk (.inl (by simpa using he))) (fun _ => i_call h2 fun r hr => ?_)
  subst hr
  exact i_call (Q := fun r => r = .mk kd nm lo hi p ps) ⟨_, hc, rfl⟩ fun r he => by subst he; exact sat_mk (.inr rfl)

/-! ### Values that do not hang on the stream -/
inductive Dv : Nat → V → Prop
  | mk {d : Nat} (k n : Int) (s : ByteArray) (fs : FV) (h : ∀ x, x ∈ fs → Dv d x.2) : Dv (d + 1) (.mk k n s fs)
/-- The value of a type, whatever the stream; at most k + 1 levels. -/
def Cst (s : PT) (k : Nat) (t : Tp) (v : V) : Prop := Dv (k + 1) v ∧ ∀ (e : Int), 0 ≤ e → e + k ≤ 20 → ∀ (n : Nat), 330 + k ≤ n → ∀ st, sat (f42_val n s t e st) fun r => r.1 = v
def Fs (s : PT) (k : Nat) : PT → FV → Prop
  | [], fs => fs = []
  | x :: xs, fs => ∃ v r, fs = (x.1, v) :: r ∧ Cst s k x.2 v ∧ Fs s k xs r
theorem Fs.of {s : PT} {k : Nat} : ∀ {ps : PT}, (∀ x, x ∈ ps → ∃ v, Cst s k x.2 v) → ∃ fs, Fs s k ps fs
  | [], _ => ⟨[], rfl⟩
  | x :: xs, h => by
    obtain ⟨v, hv⟩ := h x List.mem_cons_self
    obtain ⟨r, hr⟩ := Fs.of (ps := xs) fun y hy => h y (List.mem_cons_of_mem _ hy)
    exact ⟨_, v, r, rfl, hv, hr⟩
theorem Fs.dv {s : PT} {k : Nat} : ∀ {ps : PT} {fs : FV}, Fs s k ps fs → ∀ x, x ∈ fs → Dv (k + 1) x.2
  | [], fs, h, x, hx => by
    obtain rfl : fs = [] := h
    cases hx
  | y :: ys, fs, h, x, hx => by
    obtain ⟨v, r, rfl, hv, hr⟩ := h
    rcases List.mem_cons.1 hx with rfl | hx
    · exact hv.1
    · exact Fs.dv hr x hx
theorem L6c (s : PT) (k m : Nat) (hm : 330 + k ≤ m) (e : Int) (h0 : 0 ≤ e) (h1 : e + 1 + k ≤ 20) : ∀ (l : PT) (fs : FV), Fs s k l fs → ∀ (j : Nat) (acc : FV) (st : List Int), acc.length + l.length ≤ 100 →
    sat (f42_val_L6 (f42_val m) s e l j acc st) fun o => ∃ st', o = .inr (0, ⟨#[]⟩, st', acc ++ fs)
  | [], fs, h, j, acc, st, hl => by
    obtain rfl : fs = [] := h
    exact sat_mk ⟨st, by rw [List.append_nil]⟩
  | (a, .mk k1 m1 lo1 hi1 p1 ps1) :: tl, fs, h, j, acc, st, hl => by
    obtain ⟨v, r, rfl, hv, hr⟩ := h
    simp only [List.length_cons] at hl
    have hw : IntKind.wrap .i64 (e + 1) = e + 1 := wrap_id (by omega) (by omega)
    refine i_call (Q := fun r => r.1 = v) (by rw [hw]; exact hv.2 (e + 1) (by omega) (by omega) m hm st) fun q hq => ?_
    obtain ⟨⟨k2, n2, s2, f2⟩, st1⟩ := q
    obtain rfl : V.mk k2 n2 s2 f2 = v := hq
    refine i_grdP (by simp; omega) (sat_mono (L6c s k m hm e h0 h1 tl r hr (j + 1) _ st1 (by simp; omega)) ?_)
    rintro o ⟨st', rfl⟩
    exact ⟨st', by simp⟩
theorem L5c (s : PT) (k m : Nat) (hm : 330 + k ≤ m) (e : Int) (h0 : 0 ≤ e) (h1 : e + 1 + k ≤ 20) (x : ByteArray × Tp) (v : V) (hv : Cst s k x.2 v) : ∀ (g : Nat) (i : Int) (acc : FV) (st : List Int), acc.length + g ≤ 100 →
    sat (f42_val_L5 (f42_val m) s e [x] g i acc st) fun o => ∃ st', o = .inr (0, ⟨#[]⟩, st', acc ++ List.replicate g (⟨#[]⟩, v))
  | 0, i, acc, st, hl => sat_mk ⟨st, by simp⟩
  | g + 1, i, acc, st, hl => by
    have hw : IntKind.wrap .i64 (e + 1) = e + 1 := wrap_id (by omega) (by omega)
    refine i_getL (Int.le_refl _) (by simp) fun u hu _ => ?_
    obtain rfl := List.mem_singleton.1 hu
    obtain ⟨a, ⟨k1, m1, lo1, hi1, p1, ps1⟩⟩ := u
    refine i_call (Q := fun r => r.1 = v) (by rw [hw]; exact hv.2 (e + 1) (by omega) (by omega) m hm st) fun q hq => ?_
    obtain ⟨⟨k2, n2, s2, f2⟩, st1⟩ := q
    obtain rfl : V.mk k2 n2 s2 f2 = v := hq
    refine i_grdP (by simp; omega) (sat_mono (L5c s k m hm e h0 h1 _ _ hv g _ _ st1 (by simp; omega)) ?_)
    rintro o ⟨st', rfl⟩
    exact ⟨st', by simp [List.replicate_succ]⟩

/-- From the body: what is behind the resolution. -/
theorem val_open {s : PT} (hs : s.length ≤ 1000) {k m lo hi p ps} (hk : k ≠ 10) {n : Nat} {e : Int} {st : List Int} {R : V × List Int → Prop}
    (h : sat (b42_val n (f42_val n) s (.mk k m lo hi p ps) e st) R) : sat (f42_val (n + 1) s (.mk k m lo hi p ps) e st) R := h
theorem mres_plain (s : PT) (hs : s.length ≤ 1000) (t : Tp) (h : kindT t ≠ 10) : sat (f63_Resolve s t) fun r => r = t := sat_mono (mres_tot s hs t) fun r hr => hr.1 h

theorem cst_unit {s : PT} (hs : s.length ≤ 1000) (k : Nat) : Cst s k (.mk 0 e0 0 0 e0 []) (.mk 0 0 e0 []) := by
  refine ⟨.mk _ _ _ _ (by simp), ?_⟩
  intro e h0 h1 n hn st
  obtain ⟨m, rfl⟩ : ∃ m, n = m + 1 := ⟨n - 1, by omega⟩
  refine i_call (mres_plain s hs (.mk 0 e0 0 0 e0 []) (by decide)) fun r hr => ?_
  subst hr
  exact sat_mk rfl
theorem cst_num {s : PT} (hs : s.length ≤ 1000) (k : Nat) (kd lo : Int) (hk : kd = 1 ∨ kd = 2 ∨ kd = 4) (h2 : -9007199254740992 ≤ lo) (h3 : lo ≤ 9007199254740992) : Cst s k (.mk kd e0 lo lo e0 []) (.mk kd lo e0 []) := by
  refine ⟨.mk _ _ _ _ (by simp), ?_⟩
  intro e h0 h1 n hn st
  obtain ⟨m, rfl⟩ : ∃ m, n = m + 1 := ⟨n - 1, by omega⟩
  refine i_call (mres_plain s hs (.mk kd e0 lo lo e0 []) (by simp only [kindT]; omega)) fun r hr => ?_
  subst hr
  refine i_sbind (sat_mono (R := fun o => ∃ st', o = .inr (lo, ⟨#[]⟩, st', [])) ?_ ?_)
  case refine_2 => rintro _ ⟨st', rfl⟩; exact sat_mk rfl
  refine i_sbind (sat_mono (R := fun o => o = .inr true) ?_ ?_)
  · rcases hk with rfl | rfl | rfl <;> exact sat_mk rfl
  rintro _ rfl
  refine i_cond (fun _ => ?_) (fun h => by cases h)
  refine i_call (nxt_tot lo lo 12 (by omega) (by omega) (by omega) st) fun r hr => i_call (next_tot _ _ (by omega)) fun r2 _ => i_cond (fun _ => sat_mk ⟨_, rfl⟩) (fun _ => sat_mk ⟨r2.2, ?_⟩)
  have h0 : r.1 = 0 := by omega
  rw [h0, wrap_id (by omega) (by omega), Int.add_zero]
theorem cst_record {s : PT} (hs : s.length ≤ 1000) (k : Nat) (ps : PT) (hl : ps.length ≤ 8) (fs : FV) (hf : Fs s k ps fs) : Cst s (k + 1) (.mk 6 e0 0 0 e0 ps) (.mk 6 0 e0 fs) := by
  refine ⟨.mk _ _ _ _ hf.dv, ?_⟩
  intro e h0 h1 n hn st
  obtain ⟨m, rfl⟩ : ∃ m, n = m + 1 := ⟨n - 1, by omega⟩
  refine i_call (mres_plain s hs (.mk 6 e0 0 0 e0 ps) (by simp [kindT])) fun r hr => ?_
  subst hr
  refine i_sbind (sat_mono (R := fun o => ∃ st', o = .inr (0, ⟨#[]⟩, st', fs)) ?_ ?_)
  case refine_2 => rintro _ ⟨st', rfl⟩; exact sat_mk rfl
  exact sat_mono (L6c s k m (by omega) e h0 (by omega) ps fs hf 0 [] st (by simp; omega)) fun o ⟨st', h⟩ => ⟨st', h⟩
theorem cst_choice {s : PT} (hs : s.length ≤ 1000) (k : Nat) (x : ByteArray × Tp) (v : V) (hv : Cst s k x.2 v) : Cst s (k + 1) (.mk 7 e0 0 0 e0 [x]) (.mk 7 0 e0 [(x.1, v)]) := by
  refine ⟨.mk _ _ _ _ (fun y hy => by obtain rfl := List.mem_singleton.1 hy; exact hv.1), ?_⟩
  intro e h0 h1 n hn st
  obtain ⟨m, rfl⟩ : ∃ m, n = m + 1 := ⟨n - 1, by omega⟩
  refine i_call (mres_plain s hs (.mk 7 e0 0 0 e0 [x]) (by simp [kindT])) fun r hr => ?_
  subst hr
  have hw : IntKind.wrap .i64 (e + 1) = e + 1 := wrap_id (by omega) (by omega)
  refine i_sbind (sat_mono (R := fun o => ∃ st', o = .inr (0, ⟨#[]⟩, st', [(x.1, v)])) ?_ ?_)
  case refine_2 => rintro _ ⟨st', rfl⟩; exact sat_mk rfl
  refine i_sbind (sat_mono (R := fun o => o = .inr false) (sat_mk rfl) ?_)
  rintro _ rfl
  refine i_cond (fun h => by cases h) (fun _ => i_cond (fun h => by cases h) (fun _ => i_cond (fun h => by cases h) (fun _ => i_cond (fun h => by cases h) (fun _ => i_cond (fun _ => ?_) (fun h => by cases h)))))
  refine i_sbind (sat_mono (R := fun o => ∃ st' : List Int, o = .inr (0, st')) ?_ ?_)
  · refine i_cond (fun _ => i_call (next_tot _ _ (by simp)) fun r hr => sat_mk ⟨r.2, ?_⟩) (fun _ => sat_mk ⟨_, rfl⟩)
    have : r.1 = 0 := by simp at hr; omega
    rw [this]
  rintro _ ⟨st', rfl⟩
  obtain ⟨a, ⟨k1, m1, lo1, hi1, p1, ps1⟩⟩ := x
  refine i_getL (Int.le_refl _) (by simp) fun u hu _ => ?_
  obtain rfl := List.mem_singleton.1 hu
  refine i_getL (Int.le_refl _) (by simp) fun u hu _ => ?_
  obtain rfl := List.mem_singleton.1 hu
  refine i_call (Q := fun r => r.1 = v) (by rw [hw]; exact hv.2 (e + 1) (by omega) (by omega) m (by omega) st') fun q hq => ?_
  obtain ⟨⟨k2, n2, s2, f2⟩, st1⟩ := q
  obtain rfl : V.mk k2 n2 s2 f2 = v := hq
  exact sat_mk ⟨_, rfl⟩
theorem cst_list {s : PT} (hs : s.length ≤ 1000) (k : Nat) (lo hi : Int) (h2 : 0 ≤ lo) (h3 : lo ≤ hi) (h4 : hi ≤ 10) (x : ByteArray × Tp) (v : V) (hv : lo = hi ∧ (lo = 0 ∨ Cst s k x.2 v)) : Cst s (k + 1) (.mk 8 e0 lo hi e0 [x]) (.mk 8 0 e0 (List.replicate lo.toNat (⟨#[]⟩, v))) := by
  obtain ⟨rfl, hv⟩ := hv
  refine ⟨.mk _ _ _ _ (fun y hy => ?_), ?_⟩
  · obtain ⟨h1, rfl⟩ := List.mem_replicate.1 hy
    rcases hv with h | h
    · subst h; exact absurd rfl h1
    · exact h.1
  intro e h0 h1 n hn st
  obtain ⟨m, rfl⟩ : ∃ m, n = m + 1 := ⟨n - 1, by omega⟩
  refine i_call (mres_plain s hs (.mk 8 e0 lo lo e0 [x]) (by simp [kindT])) fun r hr => ?_
  subst hr
  have hw : IntKind.wrap .i64 (e + 1) = e + 1 := wrap_id (by omega) (by omega)
  refine i_sbind (sat_mono (R := fun o => ∃ st', o = .inr (0, ⟨#[]⟩, st', List.replicate lo.toNat (⟨#[]⟩, v))) ?_ ?_)
  case refine_2 => rintro _ ⟨st', rfl⟩; exact sat_mk rfl
  refine i_sbind (sat_mono (R := fun o => o = .inr false) (sat_mk rfl) ?_)
  rintro _ rfl
  refine i_cond (fun h => by cases h) (fun _ => i_cond (fun h => by cases h) (fun _ => i_cond (fun h => by cases h) (fun _ => i_cond (fun h => by cases h) (fun _ => i_cond (fun h => by cases h) (fun _ => i_cond (fun _ => ?_) (fun h => by cases h))))))
  refine i_sbind (sat_mono (R := fun o => ∃ st' : List Int, o = .inr (lo, st')) ?_ ?_)
  · refine i_cond (fun _ => i_call (nxt_tot lo lo 3 (by omega) (by omega) (by omega) st) fun r hr => sat_mk ⟨r.2, ?_⟩) (fun _ => sat_mk ⟨_, rfl⟩)
    have h0 : r.1 = 0 := by omega
    rw [h0, wrap_id (by omega) (by omega), Int.add_zero]
  rintro _ ⟨st', rfl⟩
  refine i_grdP (by omega) ?_
  have e1 : (lo - 0).toNat = lo.toNat := by omega
  rw [e1]
  rcases hv with h | hv
  · subst h
    exact sat_mk ⟨_, rfl⟩
  · exact sat_mono (L5c s k m (by omega) e h0 (by omega) x v hv lo.toNat 0 [] st' (by simp; omega)) fun o ⟨st', h⟩ => ⟨st', h⟩
end Go.Clap
