/- The maker of values gives a value at every type of the makers. -/
import Derived.Test.YtnielhfaioakkaaClapL5
import Derived.Test.YtnielhfaioakkaaClapL6
set_option linter.unusedVariables false
set_option linter.unusedSimpArgs false
namespace Go.Clap
abbrev SV := PT → Tp → Int → List Int → Option (V × List Int)

theorem mres_tot (s : PT) (hs : s.length ≤ 1000) (t : Tp) : sat (f63_Resolve s t) fun r => (kindT t ≠ 10 → r = t) ∧ (r = t ∨ ∃ d, d ∈ s ∧ r = d.2) := by
  have h10 : ∀ (k : Int) (m : ByteArray) (lo hi : Int) (p : ByteArray) (ps : PT) (l : PT) (j : Nat),
      sat (f63_Resolve_L10 k m lo hi p ps l j) fun o => ∃ k' m' lo' hi' p' ps', o = .inr (k', m', lo', hi', p', ps') ∧ (Tp.mk k' m' lo' hi' p' ps' = .mk k m lo hi p ps ∨ ∃ d, d ∈ l ∧ Tp.mk k' m' lo' hi' p' ps' = d.2) := by
    intro k m lo hi p ps l
    induction l with
    | nil => intro j; exact sat_mk ⟨_, _, _, _, _, _, rfl, .inl rfl⟩
    | cons x tl ih =>
      intro j
      obtain ⟨a, ⟨k1, m1, lo1, hi1, p1, ps1⟩⟩ := x
      refine i_cond (fun _ => sat_mk ⟨_, _, _, _, _, _, rfl, .inr ⟨_, List.mem_cons_self, rfl⟩⟩) (fun _ => sat_mono (ih (j + 1)) ?_)
      rintro o ⟨k', m', lo', hi', p', ps', rfl, h⟩
      refine ⟨_, _, _, _, _, _, rfl, ?_⟩
      rcases h with h | ⟨d, hd, h⟩
      · exact .inl h
      · exact .inr ⟨d, List.mem_cons_of_mem _ hd, h⟩
  have h8 : ∀ (g : Nat) (v k : Int) (m : ByteArray) (lo hi : Int) (p : ByteArray) (ps : PT), (Tp.mk k m lo hi p ps = t ∨ (kindT t = 10 ∧ ∃ d, d ∈ s ∧ Tp.mk k m lo hi p ps = d.2)) →
      sat (f63_Resolve_L8 s g v k m lo hi p ps) fun o => (∃ r, o = .inl r ∧ (r = t ∨ (kindT t = 10 ∧ ∃ d, d ∈ s ∧ r = d.2))) ∨ (∃ k' m' lo' hi' p' ps', o = .inr (k', m', lo', hi', p', ps') ∧ (Tp.mk k' m' lo' hi' p' ps' = t ∨ (kindT t = 10 ∧ ∃ d, d ∈ s ∧ Tp.mk k' m' lo' hi' p' ps' = d.2))) := by
    intro g
    induction g with
    | zero => intro v k m lo hi p ps h; exact sat_mk (.inr ⟨_, _, _, _, _, _, rfl, h⟩)
    | succ g ih =>
      intro v k m lo hi p ps h
      refine i_sbind (i_cond (fun _ => i_lft (i_lft (sat_mk (.inl ⟨_, rfl, h⟩)))) (fun hk => sat_mono (h10 k m lo hi p ps s 0) ?_))
      rintro o ⟨k', m', lo', hi', p', ps', rfl, h'⟩
      refine ih _ _ _ _ _ _ _ ?_
      rcases h' with h' | ⟨d, hd, h'⟩
      · rw [h']; exact h
      · refine .inr ⟨?_, d, hd, h'⟩
        rcases h with h | h
        · rw [← h]; simpa [kindT] using hk
        · exact h.1
  have hfin : ∀ r : Tp, (r = t ∨ (kindT t = 10 ∧ ∃ d, d ∈ s ∧ r = d.2)) → (kindT t ≠ 10 → r = t) ∧ (r = t ∨ ∃ d, d ∈ s ∧ r = d.2) := by
    rintro r (h | ⟨h1, h2⟩)
    · exact ⟨fun _ => h, .inl h⟩
    · exact ⟨fun h => absurd h1 h, .inr h2⟩
  obtain ⟨k, m, lo, hi, p, ps⟩ := t
  unfold f63_Resolve
  refine i_sbind (i_grdP ?_ (sat_mono (h8 _ _ _ _ _ _ _ _ (.inl rfl)) ?_))
  · rw [wrap_id (by omega) (by omega)]; omega
  · rintro o (⟨r, rfl, h⟩ | ⟨k', m', lo', hi', p', ps', rfl, h⟩)
    · exact hfin _ h
    · exact sat_mk (hfin _ h)

theorem L6v (self : SV) (s : PT) (e : Int) : ∀ (l : PT) (j : Nat) (acc : FV) (st : List Int), (∀ x, x ∈ l → ∀ st, sat (self s x.2 (IntKind.wrap .i64 (e + 1)) st) fun _ => True) → acc.length + l.length ≤ 100 →
    sat (f42_val_L6 self s e l j acc st) fun o => ∃ a st', o = .inr (0, ⟨#[]⟩, st', a)
  | [], j, acc, st, h, hl => sat_mk ⟨_, _, rfl⟩
  | (a, .mk k m lo hi p ps) :: tl, j, acc, st, h, hl => by
    simp only [List.length_cons] at hl
    refine i_call (h _ List.mem_cons_self st) fun r _ => ?_
    obtain ⟨⟨k1, n1, s1, f1⟩, st1⟩ := r
    exact i_grdP (by simp; omega) (L6v self s e tl (j + 1) _ st1 (fun x hx => h x (List.mem_cons_of_mem _ hx)) (by simp; omega))
theorem L5v (self : SV) (s : PT) (e : Int) (x : ByteArray × Tp) (hx : ∀ st, sat (self s x.2 (IntKind.wrap .i64 (e + 1)) st) fun _ => True) : ∀ (g : Nat) (v : Int) (acc : FV) (st : List Int), acc.length + g ≤ 100 →
    sat (f42_val_L5 self s e [x] g v acc st) fun o => ∃ a st', o = .inr (0, ⟨#[]⟩, st', a)
  | 0, v, acc, st, hl => sat_mk ⟨_, _, rfl⟩
  | g + 1, v, acc, st, hl => by
    refine i_getL (Int.le_refl _) (by simp) fun u hu _ => ?_
    obtain rfl := List.mem_singleton.1 hu
    obtain ⟨a, ⟨k, m, lo, hi, p, ps⟩⟩ := u
    refine i_call (hx st) fun r _ => ?_
    obtain ⟨⟨k1, n1, s1, f1⟩, st1⟩ := r
    exact i_grdP (by simp; omega) (L5v self s e _ hx g _ _ st1 (by simp; omega))
theorem L4v (self : SV) (s : PT) (e at_ : Int) (x : ByteArray × Tp) (hx : ∀ st, sat (self s x.2 (IntKind.wrap .i64 (e + 1)) st) fun _ => True) : ∀ (g : Nat) (v : Int) (acc : FV) (st : List Int), acc.length + g ≤ 100 →
    sat (f42_val_L4 self s e [x] at_ g v acc st) fun o => ∃ a st', o = .inr (0, ⟨#[]⟩, st', a)
  | 0, v, acc, st, hl => sat_mk ⟨_, _, rfl⟩
  | g + 1, v, acc, st, hl => by
    refine i_getL (Int.le_refl _) (by simp) fun u hu _ => ?_
    obtain rfl := List.mem_singleton.1 hu
    obtain ⟨a, ⟨k, m, lo, hi, p, ps⟩⟩ := u
    refine i_call (hx st) fun r _ => ?_
    obtain ⟨⟨k1, n1, s1, f1⟩, st1⟩ := r
    exact i_grdP (by simp; omega) (L4v self s e at_ _ hx g _ _ st1 (by simp; omega))

/-- What the body wants of the resolved type. -/
def VB (s : PT) (self : SV) (e : Int) : Tp → Prop
  | .mk k m lo hi p ps =>
    let sub : ByteArray × Tp → Prop := fun x => ∀ st, sat (self s x.2 (IntKind.wrap .i64 (e + 1)) st) fun _ => True
    (k = 5 → isPat p) ∧ (k = 6 → ps.length ≤ 8 ∧ ∀ x, x ∈ ps → sub x) ∧ (k = 7 → ps ≠ [] ∧ ps.length ≤ 8 ∧ ∀ x, x ∈ ps → sub x) ∧
    (k = 8 → 0 ≤ lo ∧ lo ≤ hi ∧ hi ≤ 10 ∧ ∃ x, ps = [x] ∧ ((e < 4 ∨ 0 < lo) → sub x)) ∧ (k = 9 → 0 ≤ lo ∧ lo ≤ hi ∧ hi ≤ 10 ∧ ∃ x, ps = [x] ∧ sub x) ∧ (k = 1 ∨ k = 2 ∨ k = 4 → -9007199254740992 ≤ lo ∧ lo ≤ hi ∧ hi ≤ 9007199254740992)
theorem nxt_tot (lo hi c : Int) (hc : 0 ≤ c ∧ c ≤ 100) (h0 : lo ≤ hi) (h1 : hi - lo ≤ 1152921504606846976) (l : List Int) :
    sat (f15_Next (IntKind.wrap .i64 ((if c < (IntKind.wrap .i64 (hi - lo)) then c else (IntKind.wrap .i64 (hi - lo))) + 1)) l) fun r => 0 ≤ r.1 ∧ r.1 ≤ c ∧ r.1 ≤ hi - lo := by
  rw [wrap_id (x := hi - lo) (by omega) (by omega)]
  split
  · rw [wrap_id (by omega) (by omega)]
    exact sat_mono (next_tot _ _ (by omega)) fun r hr => by omega
  · rw [wrap_id (by omega) (by omega)]
    exact sat_mono (next_tot _ _ (by omega)) fun r hr => by omega

theorem val_body (s : PT) (self : SV) (n : Nat) (e : Int) (t : Tp) (hr : sat (f63_Resolve s t) (VB s self e)) (st : List Int) : sat (b42_val (n + 310) self s t e st) fun _ => True := by
  obtain ⟨k0, m0, lo0, hi0, p0, ps0⟩ := t
  unfold b42_val
  refine i_call hr fun r hv => ?_
  obtain ⟨k, m, lo, hi, p, ps⟩ := r
  obtain ⟨v5, v6, v7, v8, v9, v1⟩ := hv
  refine i_sbind (sat_mono (R := fun o => ∃ a b c d, o = .inr (a, b, c, d)) ?_ ?_)
  case refine_2 => rintro _ ⟨a, b, c, d, rfl⟩; exact sat_mk trivial
  refine i_sbind (sat_mono (R := fun o => ∃ q, o = .inr q ∧ (q = true → k = 1 ∨ k = 2 ∨ k = 4)) ?_ ?_)
  · refine i_cond (fun c => sat_mk ⟨_, rfl, fun _ => .inl (by simpa using c)⟩) (fun _ => i_cond (fun c => sat_mk ⟨_, rfl, fun _ => .inr (.inl (by simpa using c))⟩) (fun _ => i_cond (fun c => sat_mk ⟨_, rfl, fun _ => .inr (.inr (by simpa using c))⟩) (fun _ => sat_mk ⟨_, rfl, fun h => by cases h⟩)))
  rintro _ ⟨q, rfl, hq⟩
  refine i_cond (fun c => ?_) (fun _ => i_cond (fun c => ?_) (fun _ => i_cond (fun c => ?_) (fun _ => i_cond (fun c => ?_) (fun _ => i_cond (fun c => ?_) (fun _ => i_cond (fun c => ?_) (fun _ => i_cond (fun c => ?_) (fun _ => ?_)))))))
  · obtain ⟨h0, h1, h2⟩ := v1 (hq c)
    refine i_call (nxt_tot lo hi 12 (by omega) h1 (by omega) st) fun r _ => i_call (next_tot _ _ (by omega)) fun r _ => i_cond (fun _ => sat_mk ⟨_, _, _, _, rfl⟩) (fun _ => sat_mk ⟨_, _, _, _, rfl⟩)
  · refine i_call (Q := fun _ => True) ?_ fun r _ => ?_
    · unfold f64_scalar
      refine i_cond (fun h => by cases h) (fun _ => i_cond (fun h => by cases h) (fun _ => i_cond (fun _ => i_call (pickI_tot _ _ (by simp) (by simp)) fun r _ => sat_mk trivial) (fun h => by cases h)))
    · obtain ⟨⟨k1, n1, s1, f1⟩, st1⟩ := r
      exact sat_mk ⟨_, _, _, _, rfl⟩
  · exact i_call (Sample_tot (v5 (by simpa using c)) n st) fun r _ => sat_mk ⟨_, _, _, _, rfl⟩
  · obtain ⟨hl, hs⟩ := v6 (by simpa using c)
    exact sat_mono (L6v self s e ps 0 [] st hs (by simp; omega)) fun o ⟨a, st', h⟩ => ⟨_, _, _, _, h⟩
  · obtain ⟨hne, hl, hs⟩ := v7 (by simpa using c)
    have hpos := List.length_pos_iff.2 hne
    refine i_sbind (sat_mono (R := fun o => ∃ (i : Int) (st' : List Int), o = .inr (i, st') ∧ 0 ≤ i ∧ i < ps.length) ?_ ?_)
    · exact i_cond (fun _ => i_call (next_tot _ _ (by omega)) fun r hr => sat_mk ⟨_, _, rfl, hr.1, by omega⟩) (fun _ => sat_mk ⟨_, _, rfl, by omega, by omega⟩)
    rintro _ ⟨i, st', rfl, hi0, hi1⟩
    refine i_getL hi0 hi1 fun u hu hu2 => ?_
    obtain ⟨a, ⟨k1, m1, lo1, hx1, p1, ps1⟩⟩ := u
    refine i_getL hi0 hi1 fun u hu' hu3 => ?_
    obtain rfl := Option.some.inj (hu2.symm.trans hu3)
    refine i_call (hs _ hu st') fun r _ => ?_
    obtain ⟨⟨k1, n1, s1, f1⟩, st1⟩ := r
    exact sat_mk ⟨_, _, _, _, rfl⟩
  · obtain ⟨h0, h1, h2, x, rfl, hs⟩ := v8 (by simpa using c)
    refine i_sbind (sat_mono (R := fun o => ∃ (i : Int) (st' : List Int), o = .inr (i, st') ∧ 0 ≤ i ∧ i ≤ 20 ∧ (¬ (e < 4 ∨ 0 < lo) → i = 0)) ?_ ?_)
    · refine i_cond (fun h4 => i_call (nxt_tot lo hi 3 (by omega) h1 (by omega) st) fun r hr => sat_mk ⟨_, _, rfl, ?_⟩) (fun h4 => sat_mk ⟨_, _, rfl, h0, by omega, by omega⟩)
      have h4 : e < 4 := by simpa using h4
      rw [wrap_id (by omega) (by omega)]
      omega
    rintro _ ⟨i, st', rfl, hi0, hi1, hi2⟩
    refine i_grdP (by omega) ?_
    by_cases hb : e < 4 ∨ 0 < lo
    · exact sat_mono (L5v self s e x (hs hb) _ _ [] st' (by simp; omega)) fun o ⟨a, st', h⟩ => ⟨_, _, _, _, h⟩
    · obtain rfl := hi2 hb
      exact sat_mk ⟨_, _, _, _, rfl⟩
  · obtain ⟨h0, h1, h2, x, rfl, hs⟩ := v9 (by simpa using c)
    refine i_call (nxt_tot lo hi 3 (by omega) h1 (by omega) st) fun r hr => ?_
    obtain ⟨a, st1⟩ := r
    dsimp only at hr ⊢
    rw [wrap_id (x := lo + a) (by omega) (by omega)]
    refine i_call (next_tot _ _ ?_) fun r2 hr2 => ?_
    · rw [wrap_id (by omega) (by omega)]; split <;> omega
    obtain ⟨b, st2⟩ := r2
    exact i_grdP (by omega) (sat_mono (L4v self s e b x hs _ _ [] st2 (by simp; omega)) fun o ⟨a, st', h⟩ => ⟨_, _, _, _, h⟩)
  · exact sat_mk ⟨_, _, _, _, rfl⟩

/-! ### Every type of the makers -/
/-- By hand: what VB wants at each definition of a schema. -/
theorem vb_leaf (s : PT) (self : SV) (e : Int) {t : Tp} (h : Leaf s t) : VB s self e t := by
  cases h with
  | unit => exact ⟨by omega, by omega, by omega, by omega, by omega, by omega⟩
  | num k lo hi hk h0 h1 h2 => exact ⟨by omega, by omega, by omega, by omega, by omega, fun _ => ⟨h0, h1, h2⟩⟩
  | text p h => exact ⟨fun _ => h, by omega, by omega, by omega, by omega, by omega⟩
  | float => exact ⟨by omega, by omega, by omega, by omega, by omega, by omega⟩
  | named d h => exact ⟨by omega, by omega, by omega, by omega, by omega, by omega⟩
theorem Sch.mem {s : PT} (h : Sch s) {d : ByteArray × Tp} (hd : d ∈ s) : d = dTree ∨ d = dMaybe ∨ d = dAliasN ∨ d = dAliasT := by
  obtain ⟨a, b, c, ha, hb, hc, rfl⟩ := h
  rcases List.mem_append.1 hd with hd | hd
  · rcases List.mem_append.1 hd with hd | hd
    · rcases ha with rfl | rfl
      · cases hd
      · exact .inl (List.mem_singleton.1 hd)
    · rcases hb with rfl | rfl
      · cases hd
      · exact .inr (.inl (List.mem_singleton.1 hd))
  · rcases hc with rfl | rfl | rfl
    · cases hd
    · exact .inr (.inr (.inl (List.mem_singleton.1 hd)))
    · exact .inr (.inr (.inr (List.mem_singleton.1 hd)))
/-- A leaf that is no name. -/
theorem val_plain {s : PT} (hs : Sch s) {t : Tp} (h : Leaf s t) (hk : kindT t ≠ 10) (m : Nat) (e : Int) (st : List Int) : sat (f42_val (m + 311) s t e st) fun _ => True := by
  refine val_body s (f42_val (m + 310)) m e t (sat_mono (mres_tot s (by have := hs.length; omega) t) fun r hr => ?_) st
  rw [hr.1 hk]
  exact vb_leaf s _ e h
def treeN : Tp := .mk 10 ⟨#[116, 114, 101, 101]⟩ 0 0 e0 []
theorem named_step {s : PT} (hs : Sch s) (m : Nat) (e : Int) (h0 : 0 ≤ e) (h100 : e ≤ 100) (nm : ByteArray) (st : List Int)
    (ih : e + 1 < 4 → ∀ st, sat (f42_val (m + 311) s treeN (e + 2) st) fun _ => True) : sat (f42_val (m + 313) s (.mk 10 nm 0 0 e0 []) e st) fun _ => True := by
  have hl := hs.length
  have hw : IntKind.wrap .i64 (e + 1) = e + 1 := wrap_id (by omega) (by omega)
  have hw2 : IntKind.wrap .i64 (e + 1 + 1) = e + 2 := by rw [wrap_id (by omega) (by omega)]; omega
  refine val_body s (f42_val (m + 312)) (m + 2) e _ (sat_mono (mres_tot s (by omega) _) fun r hr => ?_) st
  rcases hr.2 with rfl | ⟨d, hd, rfl⟩
  · exact ⟨by omega, by omega, by omega, by omega, by omega, by omega⟩
  have hnum : ∀ st, sat (f42_val (m + 312) s (.mk 2 e0 0 9 e0 []) (e + 1) st) fun _ => True := fun st => val_plain hs (.num 2 0 9 (by omega) (by omega) (by omega) (by omega)) (by decide) (m + 1) (e + 1) st
  rcases hs.mem hd with rfl | rfl | rfl | rfl
  · refine ⟨by omega, fun _ => ⟨by simp, ?_⟩, by omega, by omega, by omega, by omega⟩
    intro x hx st
    rw [hw]
    simp only [List.mem_cons, List.not_mem_nil, or_false] at hx
    rcases hx with rfl | rfl
    · exact hnum st
    · refine val_body s (f42_val (m + 311)) (m + 1) (e + 1) _ (sat_mono (mres_tot s (by omega) _) fun r hr => ?_) st
      rw [hr.1 (by decide)]
      refine ⟨by omega, by omega, by omega, fun _ => ⟨by omega, by omega, by omega, _, rfl, fun hlt st => ?_⟩, by omega, by omega⟩
      rw [hw2]
      exact ih (by omega) st
  · refine ⟨by omega, by omega, fun _ => ⟨by simp, by simp, ?_⟩, by omega, by omega, by omega⟩
    intro x hx st
    rw [hw]
    simp only [List.mem_cons, List.not_mem_nil, or_false] at hx
    rcases hx with rfl | rfl
    · exact val_plain hs .unit (by decide) (m + 1) (e + 1) st
    · exact hnum st
  · exact vb_leaf s _ e (.num 2 0 9 (by omega) (by omega) (by omega) (by omega))
  · exact vb_leaf s _ e (.text _ (.inr (.inl rfl)))
/-- A named type: at the tree each level goes two deeper, and from level 4 on a list is at its least. -/
theorem val_named {s : PT} (hs : Sch s) : ∀ (j : Nat) (e : Int), 0 ≤ e → 4 ≤ e + 2 * j → e ≤ 50 → ∀ (n : Nat), 313 + 2 * j ≤ n → ∀ (nm : ByteArray) (st : List Int), sat (f42_val n s (.mk 10 nm 0 0 e0 []) e st) fun _ => True
  | 0, e, h0, h4, h50, n, hn, nm, st => by
    obtain ⟨m, rfl⟩ : ∃ m, n = m + 313 := ⟨n - 313, by omega⟩
    exact named_step hs m e h0 (by omega) nm st fun h => by omega
  | j + 1, e, h0, h4, h50, n, hn, nm, st => by
    obtain ⟨m, rfl⟩ : ∃ m, n = m + 313 := ⟨n - 313, by omega⟩
    exact named_step hs m e h0 (by omega) nm st fun h st => val_named hs j (e + 2) (by omega) (by omega) (by omega) (m + 311) (by omega) _ st
theorem val_tot {s : PT} (hs : Sch s) {k : Nat} {t : Tp} (h : Good s k t) : ∀ (e : Int), 0 ≤ e → e + k ≤ 20 → ∀ (n : Nat), 330 + k ≤ n → ∀ (st : List Int), sat (f42_val n s t e st) fun _ => True := by
  have hl := hs.length
  have body : ∀ (t : Tp) (e : Int) (n k : Nat) (st : List Int), 330 + (k + 1) ≤ n → kindT t ≠ 10 → (∀ m, n = m + 1 → VB s (f42_val m) e t) → sat (f42_val n s t e st) fun _ => True := by
    intro t e n k st hn hk hv
    obtain ⟨m, rfl⟩ : ∃ m, n = m + 311 := ⟨n - 311, by omega⟩
    refine val_body s (f42_val (m + 310)) m e t (sat_mono (mres_tot s (by omega) t) fun r hr => ?_) st
    rw [hr.1 hk]
    exact hv _ rfl
  induction h with
  | leaf h =>
    intro e h0 h1 n hn st
    cases h with
    | named d hd => exact val_named hs 2 e h0 (by omega) (by omega) n (by omega) _ st
    | unit =>
      obtain ⟨m, rfl⟩ : ∃ m, n = m + 311 := ⟨n - 311, by omega⟩
      exact val_plain hs .unit (by decide) m e st
    | num k lo hi hk h0 h1 h2 =>
      obtain ⟨m, rfl⟩ : ∃ m, n = m + 311 := ⟨n - 311, by omega⟩
      exact val_plain hs (.num k lo hi hk h0 h1 h2) (by simp only [kindT]; omega) m e st
    | text p h =>
      obtain ⟨m, rfl⟩ : ∃ m, n = m + 311 := ⟨n - 311, by omega⟩
      exact val_plain hs (.text p h) (by simp [kindT]) m e st
    | float =>
      obtain ⟨m, rfl⟩ : ∃ m, n = m + 311 := ⟨n - 311, by omega⟩
      exact val_plain hs .float (by decide) m e st
  | @list k t lo hi h g0 g1 g2 ih =>
    intro e h0 h1 n hn st
    refine body _ e n k st hn (by simp [kindT]) fun m hm => ⟨by omega, by omega, by omega, fun _ => ⟨g0, g1, g2, _, rfl, fun _ st => ?_⟩, by omega, by omega⟩
    rw [wrap_id (by omega) (by omega)]
    exact ih (e + 1) (by omega) (by omega) m (by omega) st
  | @map k t lo hi h g0 g1 g3 g2 ih =>
    intro e h0 h1 n hn st
    refine body _ e n k st hn (by simp [kindT]) fun m hm => ⟨by omega, by omega, by omega, by omega, fun _ => ⟨g0, g1, g2, _, rfl, fun st => ?_⟩, by omega⟩
    rw [wrap_id (by omega) (by omega)]
    exact ih (e + 1) (by omega) (by omega) m (by omega) st
  | @choice k ps g0 g1 h ih =>
    intro e h0 h1 n hn st
    refine body _ e n k st hn (by simp [kindT]) fun m hm => ⟨by omega, by omega, fun _ => ⟨g0, g1, fun x hx st => ?_⟩, by omega, by omega, by omega⟩
    rw [wrap_id (by omega) (by omega)]
    exact ih x hx (e + 1) (by omega) (by omega) m (by omega) st
  | @record k ps g1 h ih =>
    intro e h0 h1 n hn st
    refine body _ e n k st hn (by simp [kindT]) fun m hm => ⟨by omega, fun _ => ⟨g1, fun x hx st => ?_⟩, by omega, by omega, by omega, by omega⟩
    rw [wrap_id (by omega) (by omega)]
    exact ih x hx (e + 1) (by omega) (by omega) m (by omega) st
end Go.Clap
