/- The checks of the small code against the loaded functions. -/
import Derived.Test.YtnjgakngmbbmfaaGreatDoorClapK6
set_option linter.unusedVariables false
set_option linter.unusedSimpArgs false
set_option maxRecDepth 100000
namespace Go.Clap
open Go.IntKind (wrap)
def VS (e n : Nat) : Prop := ∀ (d : Int) (s : BA) (v : Int) (q : Bool), d + e = 41 → At s v →
 sat (f1099_value n d s v q) fun r => Fw s v r.2.1 ∧ (r.2.2 = true → q = true ∧ ∃ ws, ws ≠ [] ∧ RdW s v ws r.2.1 ∧ PV (e + 1) r.1 ws ∧ VD (e + 1) r.1)
def FS (e : Nat) (kd : Int) (s : BA) (v : Int) (q : Bool) (r : (BA × V) × Int × Bool) : Prop :=
 Fw s v r.2.1 ∧ (r.2.2 = true → q = true ∧ ∃ ws, ws ≠ [] ∧ RdW s v ws r.2.1 ∧ VD (e + 1) r.1.2 ∧ ∀ fs us, PF (e + 1) kd fs us → PF (e + 1) kd (r.1 :: fs) (ws ++ us))
theorem field_s {e n : Nat} (hn : 4010 ≤ n) (hV : VS e n) {kd : Int} (hk : kd = 6 ∨ kd = 7 ∨ kd = 8 ∨ kd = 9) {d : Int} {s : BA} {v : Int} {q : Bool} (hd0 : 0 ≤ d) (hd : d + (e + 1) = 41) (h : At s v) : sat (f1101_field (n + 1) kd d s v q) (FS e kd s v q) := by
 have ew : wrap .i64 (d + 1) = d + 1 := wrap64 (by omega) (by omega)
 show sat (b1101_field n (f1099_value n) kd d s v q) _
 unfold b1101_field
 dsimp only
 rw [ew]
 have tl : ∀ (v1 : Int) (q1 : Bool) (a : BA), At s v1 → sat ((f1099_value n (d + 1) s v1 q1).bind fun x => match x with | ((.mk k31 n32 s33 f34), v35, q36) => some ((a, (V.mk k31 n32 s33 f34)), v35, q36)) fun r : (BA × V) × Int × Bool =>
  r.1.1 = a ∧ Fw s v1 r.2.1 ∧ (r.2.2 = true → q1 = true ∧ ∃ ws, ws ≠ [] ∧ RdW s v1 ws r.2.1 ∧ PV (e + 1) r.1.2 ws ∧ VD (e + 1) r.1.2) := by
  intro v1 q1 a h1
  refine i_call (hV (d + 1) s v1 q1 (by omega) h1) fun r hr => ?_
  obtain ⟨⟨k1, n1, s1, f1⟩, v2, q2⟩ := r
  exact sat_mk ⟨rfl, hr.1, hr.2⟩
 have named : kd = 6 ∨ kd = 7 → sat ((f1089_any s v q).bind fun x => match x with | (s28, v29, q30) => (f1099_value n (d + 1) s v29 q30).bind fun x => match x with | ((.mk k31 n32 s33 f34), v35, q36) => some ((s28, (V.mk k31 n32 s33 f34)), v35, q36)) (FS e kd s v q) := by
  intro hk'
  refine i_call (any_s h) fun r hr => ?_
  obtain ⟨a, v1, q1⟩ := r
  obtain ⟨h1, h2⟩ := hr
  refine sat_mono (tl v1 q1 a (h.on h1)) ?_
  rintro ⟨⟨a', x⟩, v2, q2⟩ ⟨rfl, h3, h4⟩
  refine ⟨h1.trans h3, fun hq => ?_⟩
  obtain ⟨h5, ws, h6, h7, h8, h9⟩ := h4 hq
  obtain ⟨h10, h11, h12⟩ := h2 h5
  exact ⟨h10, [BL a'] ++ ws, by simp, h11.trans h7, h9, fun fs us hf => pf_name hk' a' h8 hf⟩
 refine i_any' (fun b => b = true ↔ (kd = 6 ∨ kd = 7)) ?_ fun b hb => ?_
 · refine i_cond (fun h6 => sat_mk ⟨_, rfl, ?_⟩) fun h6 => i_cond (fun h7 => sat_mk ⟨_, rfl, ?_⟩) fun h7 => sat_mk ⟨_, rfl, ?_⟩
   · have : kd = 6 := by simpa using h6
     simp [this]
   · have : kd = 7 := by simpa using h7
     simp [this]
   · have h6 : kd ≠ 6 := by simpa using h6
     have h7 : kd ≠ 7 := by simpa using h7
     simp [h6, h7]
 · refine i_cond (fun h6 => named (hb.1 h6)) fun h6 => ?_
   have hno : ¬ (kd = 6 ∨ kd = 7) := fun hh => by rw [hb.2 hh] at h6; cases h6
   refine i_cond (fun h9 => ?_) fun h9 => ?_
   · have h9 : kd = 9 := by simpa using h9
     subst h9
     refine i_call (quoted_s hn h) fun r hr => ?_
     obtain ⟨a, v1, q1⟩ := r
     obtain ⟨h1, h2⟩ := hr
     refine sat_mono (tl v1 q1 a (h.on h1)) ?_
     rintro ⟨⟨a', x⟩, v2, q2⟩ ⟨rfl, h3, h4⟩
     refine ⟨h1.trans h3, fun hq => ?_⟩
     obtain ⟨h5, ws, h6, h7, h8, h9⟩ := h4 hq
     obtain ⟨h10, w, h11, h12⟩ := h2 h5
     exact ⟨h10, [BL w] ++ ws, by simp, h11.trans h7, h9, fun fs us hf => pf_key h12 h8 hf⟩
   · have h8 : kd = 8 := by
      have h9 : kd ≠ 9 := by simpa using h9
      rcases hk with h | h | h | h
      · exact absurd (.inl h) hno
      · exact absurd (.inr h) hno
      · exact h
      · exact absurd h h9
     subst h8
     refine sat_mono (tl v q ⟨#[]⟩ h) ?_
     rintro ⟨⟨a', x⟩, v2, q2⟩ ⟨rfl, h3, h4⟩
     refine ⟨h3, fun hq => ?_⟩
     obtain ⟨h5, ws, h6, h7, h8, h9⟩ := h4 hq
     exact ⟨h5, ws, h6, h7, h9, fun fs us hf => pf_elem h8 hf⟩
theorem fields_s {e n : Nat} {kd d : Int} {s : BA} (hF : ∀ v q, At s v → sat (f1101_field n kd d s v q) (FS e kd s v q)) : ∀ (g : Nat) (l : FV) (v : Int) (q : Bool), At s v → s.size + 3 ≤ g + v ∨ (q = false ∧ 1 ≤ g) → (l.length : Int) ≤ v →
 sat (f1099_value_L2 (f1101_field n) d s kd g l v q) fun o => ∃ v' q' l', o = .inr (0, ⟨#[]⟩, v', q', l') ∧ Fw s v v' ∧ (q' = true → q = true ∧ ∃ fs ws, l' = l ++ fs ∧ RdW s v (ws ++ [BL wShut]) v' ∧ PF (e + 1) kd fs ws ∧ ∀ x ∈ fs, VD (e + 1) x.2)
 | 0, l, v, q, h, hg, hl => by
  exfalso
  have := h.hi
  omega
 | g + 1, l, v, q, h, hg, hl => by
  have hsz := h.sz
  have hhi := h.hi
  have hlo := h.lo
  unfold f1099_value_L2
  refine i_cond (fun hq => i_call (is_s wShut h) fun r hr => ?_) fun hq => sat_mk ⟨v, false, l, rfl, h.fw, fun h => by cases h⟩
  subst hq
  obtain ⟨b, v1, q1⟩ := r
  obtain ⟨h1, h2, h3, h4⟩ := hr
  have h2 : q1 = true := h2
  subst h2
  refine i_cond (fun hb => ?_) fun hb => ?_
  · obtain ⟨h5, h6⟩ := h3 hb
    exact sat_mk ⟨v1, true, l, rfl, h1, fun _ => ⟨rfl, [], [], by simp, h6, pf_nil _ _, fun x hx => by cases hx⟩⟩
  · have h4 : v1 = v := h4 hb
    subst h4
    refine i_call (hF v1 true h) fun r hr => ?_
    obtain ⟨⟨a, ⟨k1, n1, s1, f1⟩⟩, v2, q2⟩ := r
    obtain ⟨h5, h6⟩ := hr
    refine i_grdP (by show l.length + 1 ≤ _; omega) (i_grdP ⟨by omega, by show ((l.length : Nat) : Int) < ((l.length + 1 : Nat) : Int); omega⟩ (i_getN (by rw [List.length_append]; show 0 + ((l.length : Nat) : Int).toNat < l.length + 1; omega) fun u _ _ => ?_))
    obtain ⟨a0, ⟨k0, n0, s0, f0⟩⟩ := u
    have es : ((l ++ ([((⟨#[]⟩ : BA), (V.mk 0 0 (⟨#[]⟩ : BA) []))] : FV)).set (0 + ((l.length : Nat) : Int).toNat) (a, (V.mk k1 n1 s1 f1))) = l ++ [(a, V.mk k1 n1 s1 f1)] := by
     have : 0 + ((l.length : Nat) : Int).toNat = l.length := by omega
     rw [this, List.set_append_right _ _ (Nat.le_refl _), Nat.sub_self]
     rfl
    show sat (f1099_value_L2 (f1101_field n) d s kd g ((l ++ ([((⟨#[]⟩ : BA), (V.mk 0 0 (⟨#[]⟩ : BA) []))] : FV)).set (0 + ((l.length : Nat) : Int).toNat) (a, (V.mk k1 n1 s1 f1))) v2 q2) _
    rw [es]
    have hv2 : v1 ≤ v2 := h5.1
    cases q2 with
    | false =>
     have hgg : 1 ≤ g := by
      rcases hg with hg | ⟨hg, _⟩
      · omega
      · cases hg
     obtain ⟨g, rfl⟩ : ∃ m, g = m + 1 := ⟨g - 1, by omega⟩
     unfold f1099_value_L2
     exact sat_mk ⟨v2, false, _, rfl, h5, fun h => by cases h⟩
    | true =>
     obtain ⟨_, ws, h7, h8, h9, h10⟩ := h6 rfl
     have hlt : v1 < v2 := h8.lt h7
     refine sat_mono (fields_s hF g _ v2 true (h.on h5) (.inl (by rcases hg with hg | ⟨hg, _⟩; omega; cases hg)) (by rw [List.length_append]; show ((l.length + 1 : Nat) : Int) ≤ v2; omega)) ?_
     rintro o ⟨v', q', l', rfl, h11, h12⟩
     refine ⟨v', q', l', rfl, h5.trans h11, fun hq' => ?_⟩
     obtain ⟨_, fs, us, rfl, h13, h14, h15⟩ := h12 hq'
     refine ⟨rfl, (a, V.mk k1 n1 s1 f1) :: fs, ws ++ us, by simp, ?_, h10 fs us h14, fun x hx => ?_⟩
     · have := h8.trans h13
       rwa [← List.append_assoc] at this
     · rcases List.mem_cons.1 hx with rfl | hx
       · exact h9
       · exact h15 x hx
theorem value_s : ∀ (e n : Nat), 4110 + 2 * e ≤ n → e ≤ 41 → VS e n
 | 0, n, hn, he, d, s, v, q, hd, h => by
  obtain ⟨n, rfl⟩ : ∃ m, n = m + 1 := ⟨n - 1, by omega⟩
  show sat (b1099_value n (f1101_field n) d s v q) _
  unfold b1099_value
  exact i_cond (fun _ => sat_mk ⟨h.fw, fun h => by cases h⟩) fun hc => by have := of_decide_eq_false hc; omega
 | e + 1, n, hn, he, d, s, v, q, hd, h => by
  obtain ⟨n, rfl⟩ : ∃ m, n = m + 2 := ⟨n - 2, by omega⟩
  have hV := value_s e n (by omega) (by omega)
  have hsz := h.sz
  show sat (b1099_value (n + 1) (f1101_field (n + 1)) d s v q) _
  unfold b1099_value
  refine i_cond (fun _ => sat_mk ⟨h.fw, fun h => by cases h⟩) fun hc => i_call (kword_s h) fun r hr => ?_
  obtain ⟨w, v1, q1⟩ := r
  obtain ⟨h1, h2⟩ := hr
  have hA1 := h.on h1
  refine i_call (Q := fun k => q1 = true → KK k w) ?_ fun k hk => ?_
  · cases hq : q1 with
    | false => exact sat_mono (kind_s w) fun k _ hh => by cases hh
    | true => exact sat_mono (h2 hq).2.2 fun k hk _ => hk
  refine i_cond (fun hq => ?_) fun _ => sat_mk ⟨h1, fun h => by cases h⟩
  have hk := hk hq
  obtain ⟨hq0, hrd, _⟩ := h2 hq
  have hd0 : 0 ≤ d := by omega
  refine i_any' (fun p : Int × BA × Int × Bool × FV => Fw s v p.2.2.1 ∧ (p.2.2.2.1 = true → ∃ ws, ws ≠ [] ∧ RdW s v ws p.2.2.1 ∧ PV (e + 1 + 1) (.mk k p.1 p.2.1 p.2.2.2.2) ws ∧ VD (e + 1 + 1) (.mk k p.1 p.2.1 p.2.2.2.2))) ?_ fun p hp => ?_
  · have leaf : ∀ n s, VD (e + 1 + 1) (.mk k n s []) := fun n s x hx => by cases hx
    refine i_cond (fun h0 => sat_mk ⟨_, rfl, h1, fun _ => ⟨[BL w], by simp, hrd, ?_, leaf _ _⟩⟩) fun h0 => ?_
    · have : k = 0 := by simpa using h0
      subst this
      have hw : w = wUnit := by simpa [KK] using hk
      subst hw
      exact (pv_unit _ _ _).mono (by omega)
    have h0 : k ≠ 0 := by simpa using h0
    refine i_any' (fun b => b = true ↔ (k = 1 ∨ k = 2 ∨ k = 4 ∨ k = 11)) ?_ fun b hb => ?_
    · refine i_cond (fun hx => sat_mk ⟨_, rfl, ?_⟩) fun hx => i_cond (fun hy => sat_mk ⟨_, rfl, ?_⟩) fun hy => i_cond (fun hz => sat_mk ⟨_, rfl, ?_⟩) fun hz => i_cond (fun hu => sat_mk ⟨_, rfl, ?_⟩) fun hu => sat_mk ⟨_, rfl, ?_⟩
      all_goals simp only [beq_iff_eq, beq_eq_false_iff_ne, ne_eq] at *
      all_goals simp_all
    · refine i_cond (fun hb' => ?_) fun hb' => ?_
      · refine i_call (number_s hA1) fun r hr => ?_
        obtain ⟨x, v2, q2⟩ := r
        obtain ⟨h3, h4, h5⟩ := hr
        refine sat_mk ⟨_, rfl, h1.trans h3, fun hq2 => ?_⟩
        obtain ⟨_, u, h6, h7⟩ := h5 hq2
        exact ⟨[BL w] ++ [BL u], by simp, hrd.trans h6, (pv_num ⟨hb.1 hb', hk⟩ h7).mono (by omega), leaf _ _⟩
      have hnum : ¬ (k = 1 ∨ k = 2 ∨ k = 4 ∨ k = 11) := fun hh => by rw [hb.2 hh] at hb'; cases hb'
      refine i_cond (fun h3 => ?_) fun h3 => ?_
      · have : k = 3 := by simpa using h3
        subst this
        refine i_call (float_s hA1) fun r hr => ?_
        obtain ⟨_, v2, q2, x⟩ := r
        obtain ⟨h3, h4⟩ := hr
        refine sat_mk ⟨_, rfl, h1.trans h3, fun hq2 => ?_⟩
        obtain ⟨u, h5, h6, h7⟩ := h4 hq2
        have h7 : x = wrap .i64 ((val (BL u) 0 : Nat) : Int) := h7
        subst h7
        have hw : w = wFloat := by simpa [KK] using hk
        subst hw
        exact ⟨[BL wFloat] ++ [BL u], by simp, hrd.trans h5, (pv_float h6).mono (by omega), leaf _ _⟩
      have h3 : k ≠ 3 := by simpa using h3
      refine i_cond (fun h5 => ?_) fun h5 => ?_
      · have : k = 5 := by simpa using h5
        subst this
        refine i_call (quoted_s (by omega) hA1) fun r hr => ?_
        obtain ⟨x, v2, q2⟩ := r
        obtain ⟨h3, h4⟩ := hr
        refine sat_mk ⟨_, rfl, h1.trans h3, fun hq2 => ?_⟩
        obtain ⟨_, u, h5, h6⟩ := h4 hq2
        have hw : w = wText := by simpa [KK] using hk
        subst hw
        exact ⟨[BL wText] ++ [BL u], by simp, hrd.trans h5, (pv_text h6).mono (by omega), leaf _ _⟩
      have h5 : k ≠ 5 := by simpa using h5
      have hk4 : k = 6 ∨ k = 7 ∨ k = 8 ∨ k = 9 := by
       unfold KK at hk
       omega
      refine i_call (must_s wOpen hA1) fun r hr => ?_
      obtain ⟨v2, q2⟩ := r
      obtain ⟨h6, h7⟩ := hr
      have hA2 := hA1.on h6
      refine sat_mono (fields_s (e := e) (fun v q hv => field_s (by omega) hV hk4 hd0 (by omega) hv) (n + 1) [] v2 q2 hA2 (.inl (by have := hA2.lo; omega)) (by have := hA2.lo; simpa using this)) ?_
      rintro o ⟨v', q', l', rfl, h8, h9⟩
      refine ⟨_, rfl, h1.trans (h6.trans h8), fun hq' => ?_⟩
      obtain ⟨h10, fs, ws, rfl, h11, h12, h13⟩ := h9 hq'
      obtain ⟨_, h14⟩ := h7 h10
      refine ⟨[BL w, BL wOpen] ++ ws ++ [BL wShut], by simp, ?_, ?_, ?_⟩
      · have := (hrd.trans h14).trans h11
        simpa using this
      · exact pv_fields ⟨hk4, hk⟩ h12
      · exact h13
  · obtain ⟨x, y, v2, q2, l⟩ := p
    refine sat_mk ⟨hp.1, fun hq2 => ?_⟩
    exact ⟨hq0, hp.2 hq2⟩
end Go.Clap
