/- The checks of the small code against the loaded functions. -/
import Derived.Test.YtnielhfaioakkaaGreatClapM2
set_option linter.unusedVariables false
set_option linter.unusedSimpArgs false
set_option maxRecDepth 100000
namespace Go.Clap
abbrev Sv := PT → Tp → Int → List Int → Option (V × List Int)
theorem mres2 (s : PT) (hs : s.length ≤ 1000) (t : Tp) : sat (f63 s t) fun r => (kindT t ≠ 10 → r = t) ∧ (r = t ∨ ∃ d, d ∈ s ∧ r = d.2) := by
 have h10 : ∀ (k : Int) (m : ByteArray) (lo hi : Int) (p : ByteArray) (ps : PT) (l : PT) (j : Nat),
  sat (f63_L10 k m lo hi p ps l j) fun o => ∃ k' m' lo' hi' p' ps', o = .inr (k', m', lo', hi', p', ps') ∧ (Tp.mk k' m' lo' hi' p' ps' = .mk k m lo hi p ps ∨ ∃ d, d ∈ l ∧ Tp.mk k' m' lo' hi' p' ps' = d.2) := by
  intro k m lo hi p ps l
  induction l with
  | nil => intro j; exact sat_mk ⟨_, _, _, _, _, _, rfl, .inl rfl⟩
  | cons x tl ih =>
   intro j
   obtain ⟨a, ⟨k1, m1, lo1, hi1, p1, ps1⟩⟩ := x
   refine i_cond (fun _ => sat_mk ⟨_, _, _, _, _, _, rfl, .inr ⟨_, List.mem_cons_self, rfl⟩⟩) (fun _ => sat_mono (ih (j + 1)) ?_)
   rintro o ⟨k', m', lo', hi', p', ps', rfl, h⟩
   refine ⟨_, _, _, _, _, _, rfl, ?_⟩
   rcases h with h | ⟨d, hd, h⟩
   · exact .inl h
   · exact .inr ⟨d, List.mem_cons_of_mem _ hd, h⟩
 have h8 : ∀ (g : Nat) (v k : Int) (m : ByteArray) (lo hi : Int) (p : ByteArray) (ps : PT), (Tp.mk k m lo hi p ps = t ∨ (kindT t = 10 ∧ ∃ d, d ∈ s ∧ Tp.mk k m lo hi p ps = d.2)) →
  sat (f63_L8 s g v k m lo hi p ps) fun o => (∃ r, o = .inl r ∧ (r = t ∨ (kindT t = 10 ∧ ∃ d, d ∈ s ∧ r = d.2))) ∨ (∃ k' m' lo' hi' p' ps', o = .inr (k', m', lo', hi', p', ps') ∧ (Tp.mk k' m' lo' hi' p' ps' = t ∨ (kindT t = 10 ∧ ∃ d, d ∈ s ∧ Tp.mk k' m' lo' hi' p' ps' = d.2))) := by
  intro g
  induction g with
  | zero => intro v k m lo hi p ps h; exact sat_mk (.inr ⟨_, _, _, _, _, _, rfl, h⟩)
  | succ g ih =>
   intro v k m lo hi p ps h
   refine i_sbind (i_cond (fun _ => i_lft (i_lft (sat_mk (.inl ⟨_, rfl, h⟩)))) (fun hk => sat_mono (h10 k m lo hi p ps s 0) ?_))
   rintro o ⟨k', m', lo', hi', p', ps', rfl, h'⟩
   refine ih _ _ _ _ _ _ _ ?_
   rcases h' with h' | ⟨d, hd, h'⟩
   · rw [h']; exact h
   · refine .inr ⟨?_, d, hd, h'⟩
     rcases h with h | h
     · rw [← h]; simpa [kindT] using hk
     · exact h.1
 have hfin : ∀ r : Tp, (r = t ∨ (kindT t = 10 ∧ ∃ d, d ∈ s ∧ r = d.2)) → (kindT t ≠ 10 → r = t) ∧ (r = t ∨ ∃ d, d ∈ s ∧ r = d.2) := by
  rintro r (h | ⟨h1, h2⟩)
  · exact ⟨fun _ => h, .inl h⟩
  · exact ⟨fun h => absurd h1 h, .inr h2⟩
 obtain ⟨k, m, lo, hi, p, ps⟩ := t
 unfold f63
 refine i_sbind (i_grdP ?_ (sat_mono (h8 _ _ _ _ _ _ _ _ (.inl rfl)) ?_))
 · rw [wrap_id (by omega) (by omega)]; omega
 · rintro o (⟨r, rfl, h⟩ | ⟨k', m', lo', hi', p', ps', rfl, h⟩)
   · exact hfin _ h
   · exact sat_mk (hfin _ h)
theorem nxt2 (lo hi c : Int) (hc : 0 ≤ c ∧ c ≤ 100) (h0 : lo ≤ hi) (h1 : hi - lo ≤ 1152921504606846976) (l : List Int) :
 sat (f15 (IntKind.wrap .i64 ((if c < (IntKind.wrap .i64 (hi - lo)) then c else (IntKind.wrap .i64 (hi - lo))) + 1)) l) fun r => 0 ≤ r.1 ∧ r.1 ≤ c ∧ r.1 ≤ hi - lo := by
 rw [wrap_id (x := hi - lo) (by omega) (by omega)]
 split
 · rw [wrap_id (by omega) (by omega)]
   exact sat_mono (next_tot _ _ (by omega)) fun r hr => by omega
 · rw [wrap_id (by omega) (by omega)]
   exact sat_mono (next_tot _ _ (by omega)) fun r hr => by omega
theorem Sch.mem2 {s : PT} (h : Sch s) {d : ByteArray × Tp} (hd : d ∈ s) : d = dTree ∨ d = dMaybe ∨ d = dAliasN ∨ d = dAliasT := by
 obtain ⟨a, b, c, ha, hb, hc, rfl⟩ := h
 rcases List.mem_append.1 hd with hd | hd
 · rcases List.mem_append.1 hd with hd | hd
   · rcases ha with rfl | rfl
     · cases hd
     · exact .inl (List.mem_singleton.1 hd)
   · rcases hb with rfl | rfl
     · cases hd
     · exact .inr (.inl (List.mem_singleton.1 hd))
 · rcases hc with rfl | rfl | rfl
   · cases hd
   · exact .inr (.inr (.inl (List.mem_singleton.1 hd)))
   · exact .inr (.inr (.inr (List.mem_singleton.1 hd)))
inductive WV : Nat → V → Prop
 | mk {k : Nat} (kd n : Int) (s : ByteArray) (fs : FV) (h1 : fs.length ≤ 100) (h : ∀ x, x ∈ fs → WV k x.2) : WV (k + 1) (.mk kd n s fs)
theorem WV.succ {k : Nat} {v : V} (h : WV k v) : WV (k + 1) v := by
 induction h with
 | mk kd n s fs h1 _ ih => exact .mk kd n s fs h1 ih
theorem WV.le {k m : Nat} (hkm : k ≤ m) {v : V} (h : WV k v) : WV m v := by
 induction hkm with
 | refl => exact h
 | step _ ih => exact ih.succ
def kindV : V → Int | .mk k _ _ _ => k
def Sc : V → Prop
 | .mk k n s fs => (k = 5 → s.size ≤ 40) ∧ (k = 1 ∨ k = 2 ∨ k = 4 → -9007199254740992 ≤ n ∧ n ≤ 9007199254740992)
inductive VT (s : PT) : Nat → Tp → Prop
 | unit {k : Nat} (m : ByteArray) (lo hi : Int) (p : ByteArray) (ps : PT) (he : ps = [] := by first | rfl | assumption) : VT s k (.mk 0 m lo hi p ps)
 | float {k : Nat} (m : ByteArray) (lo hi : Int) (p : ByteArray) (ps : PT) (he : ps = [] := by first | rfl | assumption) : VT s k (.mk 3 m lo hi p ps)
 | num {k : Nat} (kd : Int) (m : ByteArray) (lo hi : Int) (p : ByteArray) (ps : PT) (hk : kd = 1 ∨ kd = 2 ∨ kd = 4) (h0 : -9007199254740992 ≤ lo) (h1 : lo ≤ hi) (h2 : hi ≤ 9007199254740992) (he : ps = [] := by first | rfl | assumption) : VT s k (.mk kd m lo hi p ps)
 | text {k : Nat} (m : ByteArray) (lo hi : Int) (p : ByteArray) (ps : PT) (h : TP p) (he : ps = [] := by first | rfl | assumption) : VT s k (.mk 5 m lo hi p ps)
 | named {k : Nat} (m : ByteArray) (lo hi : Int) (p : ByteArray) (ps : PT) (he : ps = [] := by first | rfl | assumption) : VT s k (.mk 10 m lo hi p ps)
 | list {k : Nat} (m : ByteArray) (lo hi : Int) (p : ByteArray) (x : ByteArray × Tp) (h : VT s k x.2) (h0 : 0 ≤ lo) (h1 : lo ≤ hi) (h2 : hi ≤ 10) : VT s (k + 1) (.mk 8 m lo hi p [x])
 | map {k : Nat} (m : ByteArray) (lo hi : Int) (p : ByteArray) (x : ByteArray × Tp) (h : VT s k x.2) (h0 : 0 ≤ lo) (h1 : lo ≤ hi) (h2 : hi ≤ 10) : VT s (k + 1) (.mk 9 m lo hi p [x])
 | choice {k : Nat} (m : ByteArray) (lo hi : Int) (p : ByteArray) (ps : PT) (h0 : ps ≠ []) (h1 : ps.length ≤ 30) (h : ∀ x, x ∈ ps → VT s k x.2) : VT s (k + 1) (.mk 7 m lo hi p ps)
 | record {k : Nat} (m : ByteArray) (lo hi : Int) (p : ByteArray) (ps : PT) (h1 : ps.length ≤ 30) (h : ∀ x, x ∈ ps → VT s k x.2) : VT s (k + 1) (.mk 6 m lo hi p ps)
theorem VT.succ {s : PT} {k : Nat} {t : Tp} (h : VT s k t) : VT s (k + 1) t := by
 induction h with
 | unit => exact .unit _ _ _ _ _
 | float => exact .float _ _ _ _ _
 | num _ _ _ _ _ _ hk h0 h1 h2 => exact .num _ _ _ _ _ _ hk h0 h1 h2
 | text _ _ _ _ _ h => exact .text _ _ _ _ _ h
 | named => exact .named _ _ _ _ _
 | list _ _ _ _ x _ h0 h1 h2 ih => exact .list _ _ _ _ x ih h0 h1 h2
 | map _ _ _ _ x _ h0 h1 h2 ih => exact .map _ _ _ _ x ih h0 h1 h2
 | choice _ _ _ _ ps h0 h1 _ ih => exact .choice _ _ _ _ ps h0 h1 ih
 | record _ _ _ _ ps h1 _ ih => exact .record _ _ _ _ ps h1 ih
theorem VT.le {s : PT} {k m : Nat} (hkm : k ≤ m) {t : Tp} (h : VT s k t) : VT s m t := by
 induction hkm with
 | refl => exact h
 | step _ ih => exact ih.succ
theorem Leaf.vt {s : PT} {k : Nat} {t : Tp} (h : Leaf s t) : VT s k t := by
 cases h with
 | unit => exact .unit _ _ _ _ _
 | num k lo hi hk h0 h1 h2 => exact .num _ _ _ _ _ _ hk h0 h1 h2
 | text p h => exact .text _ _ _ _ _ (tp_leaf h)
 | float => exact .float _ _ _ _ _
 | named d h => exact .named _ _ _ _ _
theorem Good.vt {s : PT} {k : Nat} {t : Tp} (h : Good s k t) : VT s k t := by
 induction h with
 | leaf h => exact h.vt
 | list lo hi h g0 g1 g2 ih => exact .list _ _ _ _ _ ih g0 g1 g2
 | map lo hi h g0 g1 g3 g2 ih => exact .map _ _ _ _ _ ih g0 g1 g2
 | choice ps g0 g1 h ih => exact .choice _ _ _ _ _ g0 (by omega) ih
 | record ps g1 h ih => exact .record _ _ _ _ _ (by omega) ih
theorem def_vt {s : PT} (hs : Sch s) {d : ByteArray × Tp} (hd : d ∈ s) : VT s 3 d.2 := by
 rcases hs.mem2 hd with rfl | rfl | rfl | rfl
 · refine .record _ _ _ _ _ (by simp) fun x hx => ?_
   simp only [List.mem_cons, List.not_mem_nil, or_false] at hx
   rcases hx with rfl | rfl
   · exact .num _ _ _ _ _ _ (by omega) (by omega) (by omega) (by omega)
   · exact .list _ _ _ _ _ (.named _ _ _ _ _) (by omega) (by omega) (by omega)
 · refine .choice _ _ _ _ _ (by simp) (by simp) fun x hx => ?_
   simp only [List.mem_cons, List.not_mem_nil, or_false] at hx
   rcases hx with rfl | rfl
   · exact .unit _ _ _ _ _
   · exact .num _ _ _ _ _ _ (by omega) (by omega) (by omega) (by omega)
 · exact .num _ _ _ _ _ _ (by omega) (by omega) (by omega) (by omega)
 · exact .text _ _ _ _ _ (tp_leaf (.inr (.inl rfl)))
theorem mres_vt {s : PT} (hs : Sch s) {k : Nat} (hk : 3 ≤ k) {t : Tp} (h : VT s k t) : sat (f63 s t) fun r => VT s k r ∧ (kindT t ≠ 10 → r = t) := by
 refine sat_mono (mres2 s (by have := hs.length; omega) t) fun r hr => ⟨?_, hr.1⟩
 rcases hr.2 with rfl | ⟨d, hd, rfl⟩
 · exact h
 · exact (def_vt hs hd).le hk
theorem L6w (self : Sv) (s : PT) (e : Int) (K : Nat) : ∀ (l : PT) (j : Nat) (acc : FV) (st : List Int), (∀ x, x ∈ l → ∀ st, sat (self s x.2 (IntKind.wrap .i64 (e + 1)) st) fun r => WV K r.1) → acc.length + l.length ≤ 100 → (∀ x, x ∈ acc → WV K x.2) →
 sat (f42_L6 self s e l j acc st) fun o => ∃ a st', o = .inr (0, ⟨#[]⟩, st', a) ∧ a.length ≤ 100 ∧ ∀ x, x ∈ a → WV K x.2
 | [], j, acc, st, h, hl, ha => sat_mk ⟨_, _, rfl, by simpa using hl, ha⟩
 | (a, .mk k m lo hi p ps) :: tl, j, acc, st, h, hl, ha => by
  simp only [List.length_cons] at hl
  refine i_call (h _ List.mem_cons_self st) fun r hr => ?_
  obtain ⟨⟨k1, n1, s1, f1⟩, st1⟩ := r
  exact i_grdP (by simp; omega) (L6w self s e K tl (j + 1) _ st1 (fun x hx => h x (List.mem_cons_of_mem _ hx)) (by simp; omega) fun x hx => by
   rcases List.mem_append.1 hx with hx | hx
   · exact ha x hx
   · obtain rfl := List.mem_singleton.1 hx; exact hr)
theorem L5w (self : Sv) (s : PT) (e : Int) (K : Nat) (x : ByteArray × Tp) (hx : ∀ st, sat (self s x.2 (IntKind.wrap .i64 (e + 1)) st) fun r => WV K r.1) : ∀ (g : Nat) (v : Int) (acc : FV) (st : List Int), acc.length + g ≤ 100 → (∀ x, x ∈ acc → WV K x.2) →
 sat (f42_L5 self s e [x] g v acc st) fun o => ∃ a st', o = .inr (0, ⟨#[]⟩, st', a) ∧ a.length ≤ 100 ∧ ∀ x, x ∈ a → WV K x.2
 | 0, v, acc, st, hl, ha => sat_mk ⟨_, _, rfl, by omega, ha⟩
 | g + 1, v, acc, st, hl, ha => by
  refine i_getL (Int.le_refl _) (by simp) fun u hu _ => ?_
  obtain rfl := List.mem_singleton.1 hu
  obtain ⟨a, ⟨k, m, lo, hi, p, ps⟩⟩ := u
  refine i_call (hx st) fun r hr => ?_
  obtain ⟨⟨k1, n1, s1, f1⟩, st1⟩ := r
  exact i_grdP (by simp; omega) (L5w self s e K _ hx g _ _ st1 (by simp; omega) fun x hx => by
   rcases List.mem_append.1 hx with hx | hx
   · exact ha x hx
   · obtain rfl := List.mem_singleton.1 hx; exact hr)
theorem L4w (self : Sv) (s : PT) (e at_ : Int) (K : Nat) (x : ByteArray × Tp) (hx : ∀ st, sat (self s x.2 (IntKind.wrap .i64 (e + 1)) st) fun r => WV K r.1) : ∀ (g : Nat) (v : Int) (acc : FV) (st : List Int), acc.length + g ≤ 100 → (∀ x, x ∈ acc → WV K x.2) →
 sat (f42_L4 self s e [x] at_ g v acc st) fun o => ∃ a st', o = .inr (0, ⟨#[]⟩, st', a) ∧ a.length ≤ 100 ∧ ∀ x, x ∈ a → WV K x.2
 | 0, v, acc, st, hl, ha => sat_mk ⟨_, _, rfl, by omega, ha⟩
 | g + 1, v, acc, st, hl, ha => by
  refine i_getL (Int.le_refl _) (by simp) fun u hu _ => ?_
  obtain rfl := List.mem_singleton.1 hu
  obtain ⟨a, ⟨k, m, lo, hi, p, ps⟩⟩ := u
  refine i_call (hx st) fun r hr => ?_
  obtain ⟨⟨k1, n1, s1, f1⟩, st1⟩ := r
  exact i_grdP (by simp; omega) (L4w self s e at_ K _ hx g _ _ st1 (by simp; omega) fun x hx => by
   rcases List.mem_append.1 hx with hx | hx
   · exact ha x hx
   · obtain rfl := List.mem_singleton.1 hx; exact hr)
def VBw (s : PT) (self : Sv) (e : Int) (K : Nat) : Tp → Prop
 | .mk k m lo hi p ps =>
  let sub : ByteArray × Tp → Prop := fun x => ∀ st, sat (self s x.2 (IntKind.wrap .i64 (e + 1)) st) fun r => WV K r.1
  (k = 5 → TP p) ∧ (k = 6 → ps.length ≤ 30 ∧ ∀ x, x ∈ ps → sub x) ∧ (k = 7 → ps ≠ [] ∧ ps.length ≤ 30 ∧ ∀ x, x ∈ ps → sub x) ∧
  (k = 8 → 0 ≤ lo ∧ lo ≤ hi ∧ hi ≤ 10 ∧ ∃ x, ps = [x] ∧ ((e < 4 ∨ 0 < lo) → sub x)) ∧ (k = 9 → 0 ≤ lo ∧ lo ≤ hi ∧ hi ≤ 10 ∧ ∃ x, ps = [x] ∧ sub x) ∧ (k = 1 ∨ k = 2 ∨ k = 4 → -9007199254740992 ≤ lo ∧ lo ≤ hi ∧ hi ≤ 9007199254740992)
theorem val_bodyw (s : PT) (self : Sv) (n : Nat) (hn : 60000 ≤ n) (e : Int) (K : Nat) (t : Tp) (hr : sat (f63 s t) fun r => VBw s self e K r ∧ (kindT t ≠ 10 → r = t)) (st : List Int) :
 sat (b42 n self s t e st) fun r => WV (K + 1) r.1 ∧ Sc r.1 ∧ (kindT t ≠ 10 → kindV r.1 = kindT t) := by
 obtain ⟨k0, m0, lo0, hi0, p0, ps0⟩ := t
 unfold b42
 refine i_call hr fun r hv => ?_
 obtain ⟨k, m, lo, hi, p, ps⟩ := r
 obtain ⟨⟨v5, v6, v7, v8, v9, v1⟩, hkk⟩ := hv
 have hkk : k0 ≠ 10 → k = k0 := fun h => by have := hkk h; injection this
 refine i_sbind (sat_mono (R := fun o => ∃ (a : Int) (b : ByteArray) (c : List Int) (d : FV), o = .inr (a, b, c, d) ∧ d.length ≤ 100 ∧ (∀ x, x ∈ d → WV K x.2) ∧ (k = 5 → b.size ≤ 40) ∧ (k = 1 ∨ k = 2 ∨ k = 4 → -9007199254740992 ≤ a ∧ a ≤ 9007199254740992)) ?_ ?_)
 case refine_2 =>
  rintro _ ⟨a, b, c, d, rfl, h1, h2, h3, h4⟩
  exact sat_mk ⟨.mk _ _ _ _ h1 h2, ⟨h3, h4⟩, hkk⟩
 have hb0 : (⟨#[]⟩ : ByteArray).size = 0 := rfl
 refine i_sbind (sat_mono (R := fun o => ∃ q, o = .inr q ∧ (q = true → k = 1 ∨ k = 2 ∨ k = 4) ∧ (q = false → k ≠ 1 ∧ k ≠ 2 ∧ k ≠ 4)) ?_ ?_)
 · refine i_cond (fun c => sat_mk ⟨_, rfl, fun _ => .inl (by simpa using c), fun h => by cases h⟩) (fun c1 => i_cond (fun c => sat_mk ⟨_, rfl, fun _ => .inr (.inl (by simpa using c)), fun h => by cases h⟩) (fun c2 => i_cond (fun c => sat_mk ⟨_, rfl, fun _ => .inr (.inr (by simpa using c)), fun h => by cases h⟩) (fun c3 => sat_mk ⟨_, rfl, fun h => (by cases h), fun _ => ⟨by simpa using c1, by simpa using c2, by simpa using c3⟩⟩)))
 rintro _ ⟨q, rfl, hq, hq2⟩
 refine i_cond (fun c => ?_) (fun cq => i_cond (fun c => ?_) (fun _ => i_cond (fun c => ?_) (fun _ => i_cond (fun c => ?_) (fun _ => i_cond (fun c => ?_) (fun _ => i_cond (fun c => ?_) (fun _ => i_cond (fun c => ?_) (fun _ => ?_)))))))
 · have hk := hq c
   obtain ⟨h0, h1, h2⟩ := v1 hk
   refine i_call (nxt2 lo hi 12 (by omega) h1 (by omega) st) fun r hr => i_call (next_tot _ _ (by omega)) fun r2 _ => i_cond (fun _ => sat_mk ⟨_, _, _, _, rfl, by simp, by simp, by omega, fun _ => ⟨by omega, by omega⟩⟩) (fun _ => sat_mk ⟨_, _, _, _, rfl, by simp, by simp, by omega, fun _ => ?_⟩)
   rw [wrap_id (by omega) (by omega)]
   omega
 all_goals obtain ⟨n1, n2, n4⟩ := hq2 cq
 · have hk : k = 3 := by simpa using c
   refine i_call (Q := fun _ => True) ?_ fun r _ => ?_
   · unfold f64
     refine i_cond (fun h => by cases h) (fun _ => i_cond (fun h => by cases h) (fun _ => i_cond (fun _ => i_call (pickI_tot _ _ (by simp) (by simp)) fun r _ => sat_mk trivial) (fun h => by cases h)))
   · obtain ⟨⟨k1, n1, s1, f1⟩, st1⟩ := r
     exact sat_mk ⟨_, _, _, _, rfl, by simp, by simp, by omega, by omega⟩
 · have hk : k = 5 := by simpa using c
   exact i_call ((v5 hk).sample n hn st) fun r hr => sat_mk ⟨_, _, _, _, rfl, by simp, by simp, fun _ => hr, by omega⟩
 · have hk : k = 6 := by simpa using c
   obtain ⟨hl, hs⟩ := v6 hk
   exact sat_mono (L6w self s e K ps 0 [] st hs (by simp; omega) (by simp)) fun o ⟨a, st', h, h1, h2⟩ => ⟨_, _, _, _, h, h1, h2, by omega, by omega⟩
 · have hk : k = 7 := by simpa using c
   obtain ⟨hne, hl, hs⟩ := v7 hk
   have hpos := List.length_pos_iff.2 hne
   refine i_sbind (sat_mono (R := fun o => ∃ (i : Int) (st' : List Int), o = .inr (i, st') ∧ 0 ≤ i ∧ i < ps.length) ?_ ?_)
   · exact i_cond (fun _ => i_call (next_tot _ _ (by omega)) fun r hr => sat_mk ⟨_, _, rfl, hr.1, by omega⟩) (fun _ => sat_mk ⟨_, _, rfl, by omega, by omega⟩)
   rintro _ ⟨i, st', rfl, hi0, hi1⟩
   refine i_getL hi0 hi1 fun u hu hu2 => ?_
   obtain ⟨a, ⟨k1, m1, lo1, hx1, p1, ps1⟩⟩ := u
   refine i_getL hi0 hi1 fun u hu' hu3 => ?_
   obtain rfl := Option.some.inj (hu2.symm.trans hu3)
   refine i_call (hs _ hu st') fun r hr => ?_
   obtain ⟨⟨k1, n1, s1, f1⟩, st1⟩ := r
   exact sat_mk ⟨_, _, _, _, rfl, by simp, fun x hx => by obtain rfl := List.mem_singleton.1 hx; exact hr, by omega, by omega⟩
 · have hk : k = 8 := by simpa using c
   obtain ⟨h0, h1, h2, x, rfl, hs⟩ := v8 hk
   refine i_sbind (sat_mono (R := fun o => ∃ (i : Int) (st' : List Int), o = .inr (i, st') ∧ 0 ≤ i ∧ i ≤ 20 ∧ (¬ (e < 4 ∨ 0 < lo) → i = 0)) ?_ ?_)
   · refine i_cond (fun h4 => i_call (nxt2 lo hi 3 (by omega) h1 (by omega) st) fun r hr => sat_mk ⟨_, _, rfl, ?_⟩) (fun h4 => sat_mk ⟨_, _, rfl, h0, by omega, by omega⟩)
     have h4 : e < 4 := by simpa using h4
     rw [wrap_id (by omega) (by omega)]
     omega
   rintro _ ⟨i, st', rfl, hi0, hi1, hi2⟩
   refine i_grdP (by omega) ?_
   by_cases hb : e < 4 ∨ 0 < lo
   · exact sat_mono (L5w self s e K x (hs hb) _ _ [] st' (by simp; omega) (by simp)) fun o ⟨a, st', h, h1, h2⟩ => ⟨_, _, _, _, h, h1, h2, by omega, by omega⟩
   · obtain rfl := hi2 hb
     exact sat_mk ⟨_, _, _, _, rfl, by simp, by simp, by omega, by omega⟩
 · have hk : k = 9 := by simpa using c
   obtain ⟨h0, h1, h2, x, rfl, hs⟩ := v9 hk
   refine i_call (nxt2 lo hi 3 (by omega) h1 (by omega) st) fun r hr => ?_
   obtain ⟨a, st1⟩ := r
   dsimp only at hr ⊢
   rw [wrap_id (x := lo + a) (by omega) (by omega)]
   refine i_call (next_tot _ _ ?_) fun r2 hr2 => ?_
   · rw [wrap_id (by omega) (by omega)]; split <;> omega
   obtain ⟨b, st2⟩ := r2
   exact i_grdP (by omega) (sat_mono (L4w self s e b K x hs _ _ [] st2 (by simp; omega) (by simp)) fun o ⟨a, st', h, h1, h2⟩ => ⟨_, _, _, _, h, h1, h2, by omega, by omega⟩)
 · refine sat_mk ⟨_, _, _, _, rfl, by simp, by simp, ?_, by omega⟩
   rename_i c5 _ _ _ _
   intro hk
   subst hk
   exact absurd c5 (by decide)
theorem vbw_triv {s : PT} {self : Sv} {e : Int} {K : Nat} {k : Int} {m : ByteArray} {lo hi : Int} {p : ByteArray} {ps : PT} (h : k = 0 ∨ k = 3 ∨ k = 10) : VBw s self e K (.mk k m lo hi p ps) :=
 ⟨by omega, by omega, by omega, by omega, by omega, by omega⟩
theorem vbw_num {s : PT} {self : Sv} {e : Int} {K : Nat} {k : Int} {m : ByteArray} {lo hi : Int} {p : ByteArray} {ps : PT} (hk : k = 1 ∨ k = 2 ∨ k = 4) (h0 : -9007199254740992 ≤ lo) (h1 : lo ≤ hi) (h2 : hi ≤ 9007199254740992) : VBw s self e K (.mk k m lo hi p ps) :=
 ⟨by omega, by omega, by omega, by omega, by omega, fun _ => ⟨h0, h1, h2⟩⟩
theorem vbw_text {s : PT} {self : Sv} {e : Int} {K : Nat} {m : ByteArray} {lo hi : Int} {p : ByteArray} {ps : PT} (h : TP p) : VBw s self e K (.mk 5 m lo hi p ps) :=
 ⟨fun _ => h, by omega, by omega, by omega, by omega, by omega⟩
theorem val_self {s : PT} (hs : Sch s) (n : Nat) (hn : 60000 ≤ n) (e : Int) (K : Nat) {t : Tp} (hk : kindT t ≠ 10) (hv : VBw s (f42 n) e K t) (st : List Int) :
 sat (f42 (n + 1) s t e st) fun r => WV (K + 1) r.1 ∧ Sc r.1 ∧ (kindT t ≠ 10 → kindV r.1 = kindT t) :=
 val_bodyw s (f42 n) n hn e K t (sat_mono (mres2 s (by have := hs.length; omega) t) fun r hr => by rw [hr.1 hk]; exact ⟨hv, fun _ => rfl⟩) st
theorem named_w {s : PT} (hs : Sch s) : ∀ (j : Nat) (e : Int), 0 ≤ e → 4 ≤ e + 2 * j → e ≤ 95 → ∀ (n : Nat), 60002 + 2 * j ≤ n → ∀ (m : ByteArray) (lo hi : Int) (p : ByteArray) (ps : PT) (st : List Int),
 sat (f42 n s (.mk 10 m lo hi p ps) e st) fun r => WV (2 * j + 4) r.1 ∧ Sc r.1
 | j, e, h0, h4, h95, n, hn, m, lo, hi, p, ps, st => by
  obtain ⟨n, rfl⟩ : ∃ n', n = n' + 1 := ⟨n - 1, by omega⟩
  have hw : IntKind.wrap .i64 (e + 1) = e + 1 := wrap_id (by omega) (by omega)
  have hnum : ∀ st, sat (f42 n s (.mk 2 e0 0 9 e0 []) (e + 1) st) fun r => WV (2 * j + 3) r.1 := fun st => by
   obtain ⟨n, rfl⟩ : ∃ n', n = n' + 1 := ⟨n - 1, by omega⟩
   exact sat_mono (val_self hs n (by omega) (e + 1) 0 (by decide) (vbw_num (by omega) (by omega) (by omega) (by omega)) st) fun r hr => hr.1.le (by omega)
  have hunit : ∀ st, sat (f42 n s (.mk 0 e0 0 0 e0 []) (e + 1) st) fun r => WV (2 * j + 3) r.1 := fun st => by
   obtain ⟨n, rfl⟩ : ∃ n', n = n' + 1 := ⟨n - 1, by omega⟩
   exact sat_mono (val_self hs n (by omega) (e + 1) 0 (by decide) (vbw_triv (by omega)) st) fun r hr => hr.1.le (by omega)
  have hb : sat (b42 n (f42 n) s (.mk 10 m lo hi p ps) e st) fun r => WV (2 * j + 3 + 1) r.1 ∧ Sc r.1 ∧ (kindT (.mk 10 m lo hi p ps) ≠ 10 → kindV r.1 = kindT (.mk 10 m lo hi p ps)) := by
   refine val_bodyw s (f42 n) n (by omega) e (2 * j + 3) _ (sat_mono (mres2 s (by have := hs.length; omega) _) fun r hr => ⟨?_, fun h => absurd rfl h⟩) st
   rcases hr.2 with rfl | ⟨d, hd, rfl⟩
   · exact vbw_triv (by omega)
   rcases hs.mem2 hd with rfl | rfl | rfl | rfl
   · refine ⟨by omega, fun _ => ⟨by simp, ?_⟩, by omega, by omega, by omega, by omega⟩
     intro x hx st
     rw [hw]
     simp only [List.mem_cons, List.not_mem_nil, or_false] at hx
     rcases hx with rfl | rfl
     · exact hnum st
     · obtain ⟨n, rfl⟩ : ∃ n', n = n' + 1 := ⟨n - 1, by omega⟩
       have hw2 : IntKind.wrap .i64 (e + 1 + 1) = e + 2 := by rw [wrap_id (by omega) (by omega)]; omega
       refine sat_mono (val_self (t := .mk 8 e0 0 2 e0 [(e0, .mk 10 ⟨#[116, 114, 101, 101]⟩ 0 0 e0 [])]) hs n (by omega) (e + 1) (2 * j + 2) (by decide) ⟨by omega, by omega, by omega, fun _ => ⟨by omega, by omega, by omega, _, rfl, fun hlt st => ?_⟩, by omega, by omega⟩ st) fun r hr => hr.1
       rw [hw2]
       cases j with
       | zero => omega
       | succ j => exact sat_mono (named_w hs j (e + 2) (by omega) (by omega) (by omega) n (by omega) _ _ _ _ _ st) fun r hr => hr.1.le (by omega)
   · refine ⟨by omega, by omega, fun _ => ⟨by simp, by simp, ?_⟩, by omega, by omega, by omega⟩
     intro x hx st
     rw [hw]
     simp only [List.mem_cons, List.not_mem_nil, or_false] at hx
     rcases hx with rfl | rfl
     · exact hunit st
     · exact hnum st
   · exact vbw_num (by omega) (by omega) (by omega) (by omega)
   · exact vbw_text tp_ac
  exact sat_mono hb fun r hr => ⟨hr.1, hr.2.1⟩
theorem val_vt {s : PT} (hs : Sch s) {k : Nat} {t : Tp} (h : VT s k t) : ∀ (e : Int), 0 ≤ e → e + k ≤ 90 → ∀ (n : Nat), 60020 + k ≤ n → ∀ (st : List Int),
 sat (f42 n s t e st) fun r => WV (k + 12) r.1 ∧ Sc r.1 ∧ (kindT t ≠ 10 → kindV r.1 = kindT t) := by
 induction h with
 | @unit k m lo hi p ps =>
  intro e h0 h1 n hn st
  obtain ⟨n, rfl⟩ : ∃ n', n = n' + 1 := ⟨n - 1, by omega⟩
  exact sat_mono (val_self hs n (by omega) e 0 (by simp [kindT]) (vbw_triv (by omega)) st) fun r hr => ⟨hr.1.le (by omega), hr.2⟩
 | @float k m lo hi p ps =>
  intro e h0 h1 n hn st
  obtain ⟨n, rfl⟩ : ∃ n', n = n' + 1 := ⟨n - 1, by omega⟩
  exact sat_mono (val_self hs n (by omega) e 0 (by simp [kindT]) (vbw_triv (by omega)) st) fun r hr => ⟨hr.1.le (by omega), hr.2⟩
 | @num k kd m lo hi p ps hk g0 g1 g2 =>
  intro e h0 h1 n hn st
  obtain ⟨n, rfl⟩ : ∃ n', n = n' + 1 := ⟨n - 1, by omega⟩
  exact sat_mono (val_self hs n (by omega) e 0 (by simp only [kindT]; omega) (vbw_num hk g0 g1 g2) st) fun r hr => ⟨hr.1.le (by omega), hr.2⟩
 | @text k m lo hi p ps h =>
  intro e h0 h1 n hn st
  obtain ⟨n, rfl⟩ : ∃ n', n = n' + 1 := ⟨n - 1, by omega⟩
  exact sat_mono (val_self hs n (by omega) e 0 (by simp [kindT]) (vbw_text h) st) fun r hr => ⟨hr.1.le (by omega), hr.2⟩
 | @named k m lo hi p ps =>
  intro e h0 h1 n hn st
  exact sat_mono (named_w hs 2 e h0 (by omega) (by omega) n (by omega) _ _ _ _ _ st) fun r hr => ⟨hr.1.le (by omega), hr.2, fun h => absurd rfl h⟩
 | @list k m lo hi p x h g0 g1 g2 ih =>
  intro e h0 h1 n hn st
  obtain ⟨n, rfl⟩ : ∃ n', n = n' + 1 := ⟨n - 1, by omega⟩
  refine sat_mono (val_self (t := .mk 8 m lo hi p [x]) hs n (by omega) e (k + 12) (by simp [kindT]) ⟨by omega, by omega, by omega, fun _ => ⟨g0, g1, g2, _, rfl, fun _ st => ?_⟩, by omega, by omega⟩ st) fun r hr => ⟨hr.1.le (by omega), hr.2⟩
  rw [wrap_id (by omega) (by omega)]
  exact sat_mono (ih (e + 1) (by omega) (by omega) n (by omega) st) fun r hr => hr.1
 | @map k m lo hi p x h g0 g1 g2 ih =>
  intro e h0 h1 n hn st
  obtain ⟨n, rfl⟩ : ∃ n', n = n' + 1 := ⟨n - 1, by omega⟩
  refine sat_mono (val_self (t := .mk 9 m lo hi p [x]) hs n (by omega) e (k + 12) (by simp [kindT]) ⟨by omega, by omega, by omega, by omega, fun _ => ⟨g0, g1, g2, _, rfl, fun st => ?_⟩, by omega⟩ st) fun r hr => ⟨hr.1.le (by omega), hr.2⟩
  rw [wrap_id (by omega) (by omega)]
  exact sat_mono (ih (e + 1) (by omega) (by omega) n (by omega) st) fun r hr => hr.1
 | @choice k m lo hi p ps g0 g1 h ih =>
  intro e h0 h1 n hn st
  obtain ⟨n, rfl⟩ : ∃ n', n = n' + 1 := ⟨n - 1, by omega⟩
  refine sat_mono (val_self (t := .mk 7 m lo hi p ps) hs n (by omega) e (k + 12) (by simp [kindT]) ⟨by omega, by omega, fun _ => ⟨g0, g1, fun x hx st => ?_⟩, by omega, by omega, by omega⟩ st) fun r hr => ⟨hr.1.le (by omega), hr.2⟩
  rw [wrap_id (by omega) (by omega)]
  exact sat_mono (ih x hx (e + 1) (by omega) (by omega) n (by omega) st) fun r hr => hr.1
 | @record k m lo hi p ps g1 h ih =>
  intro e h0 h1 n hn st
  obtain ⟨n, rfl⟩ : ∃ n', n = n' + 1 := ⟨n - 1, by omega⟩
  refine sat_mono (val_self (t := .mk 6 m lo hi p ps) hs n (by omega) e (k + 12) (by simp [kindT]) ⟨by omega, fun _ => ⟨g1, fun x hx st => ?_⟩, by omega, by omega, by omega, by omega⟩ st) fun r hr => ⟨hr.1.le (by omega), hr.2⟩
  rw [wrap_id (by omega) (by omega)]
  exact sat_mono (ih x hx (e + 1) (by omega) (by omega) n (by omega) st) fun r hr => hr.1
end Go.Clap
