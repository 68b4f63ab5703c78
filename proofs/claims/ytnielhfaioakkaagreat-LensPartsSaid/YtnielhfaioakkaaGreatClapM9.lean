/- The checks of the small code against the loaded functions. -/
import Derived.Test.YtnielhfaioakkaaGreatClapM8
set_option linter.unusedVariables false
set_option linter.unusedSimpArgs false
set_option maxRecDepth 100000
namespace Go.Clap
theorem list_mk {s : PT} (hs : Sch s) {d k : Nat} (hd : d ≤ 50) (hk : 3 ≤ k) (hk2 : k + gg d + 1 ≤ 80) (n : Nat) (hn : 60110 ≤ n) (self : Mk) (hself : LT s self d k) (t : Tp) (ht : VT s k t)
 (k7 : Int) (h7 : k7 = 8 ∨ k7 = 9) (m : BA) (lo hi : Int) (p : BA) (x : BA × Tp) (hx : VT s k x.2) (hlo : 0 ≤ lo) (hlh : lo ≤ hi) (hhi : hi ≤ 10) (l : LI) : sat (b427 n self t (.mk k7 m lo hi p [x]) ((d + 1 : Nat) : Int) s l) (ST s d k) := by
 have hgp := gg_pos d
 have fin : ∀ y : BA × Tp, VT s (k + gg d) y.2 → VT s (k + gg d + 1) (.mk k7 m lo hi p [y]) := fun y hy => by
  rcases h7 with rfl | rfl
  · exact .list _ _ _ _ _ hy hlo hlh hhi
  · exact .map _ _ _ _ _ hy hlo hlh hhi
 obtain ⟨k1, m1, lo1, hi1, p1, ps1⟩ := t
 obtain ⟨xn, ⟨xk, xm, xlo, xhi, xp, xps⟩⟩ := x
 unfold b427
 dsimp only
 rw [wrap_pred d (by omega)]
 refine i_call (clone_tot _ _ _ _ _ _ (by simp)) fun r hr => ?_
 subst hr
 dsimp only
 refine i_any (fun z : Int × BA × Int × Int × BA × PT => VT s k (.mk z.1 z.2.1 z.2.2.1 z.2.2.2.1 z.2.2.2.2.1 z.2.2.2.2.2)) ?_ ?_
 · refine i_getL (by omega) (by simp) fun u hu _ => ?_
   obtain rfl := List.mem_singleton.1 hu
   refine i_call (mres_vt hs hk hx) fun r hr => ?_
   obtain ⟨⟩ := r
   exact sat_mk ⟨_, rfl, hr.1⟩
 rintro ⟨a1, a2, a3, a4, a5, a6⟩ ha
 dsimp only at ha ⊢
 refine i_sbind (sat_mono (R := fun o => (∃ r, o = .inl r ∧ ST s d k r) ∨ ∃ st, o = .inr st) ?_ ?_)
 · refine i_cond (fun c8 => i_cond (fun c6 => i_call (next_tot _ _ (by omega)) fun r _ => i_cond (fun _ => ?_) (fun _ => sat_mk (.inr ⟨_, rfl⟩))) (fun _ => sat_mk (.inr ⟨_, rfl⟩))) (fun _ => sat_mk (.inr ⟨_, rfl⟩))
   obtain rfl : k7 = 8 := by simpa using c8
   obtain rfl : a1 = 6 := by simpa using c6
   refine i_call (sel_tot (d := 2 * d + 1) hs hk (by omega) n hn m lo hi p _ hlo hlh hhi a2 a3 a4 a5 a6 ha.parts2.1 ha.parts2.2 _) fun r hr => ?_
   obtain ⟨⟨op, a, b, c, e, f, g, h, ⟨⟩, pr, kk⟩, ⟨⟩, q, l'⟩ := r
   exact i_cond (fun c => i_lft (sat_mk (.inl ⟨_, rfl, (hr c).1, (hr c).2.le (by omega)⟩))) (fun _ => sat_mk (.inr ⟨_, rfl⟩))
 rintro o (⟨r, rfl, hr⟩ | ⟨st, rfl⟩)
 · exact hr
 refine i_getL (by omega) (by simp) fun u hu _ => ?_
 obtain rfl := List.mem_singleton.1 hu
 refine i_call (hself _ _ hx) fun r hr => ?_
 obtain ⟨⟨op, a, b, c, e, f, g, h, ⟨⟩, pr, kk⟩, ⟨⟩, l'⟩ := r
 refine i_grdP ⟨by omega, by simp⟩ (i_getN (by simp) fun u hu _ => ?_)
 obtain rfl := List.mem_singleton.1 hu
 refine i_any (fun _ => True) ?_ ?_
 · refine i_any (fun _ => True) ?_ ?_
   · refine i_call (mres2 s (by have := hs.length; omega) _) fun r _ => ?_
     obtain ⟨⟩ := r
     exact sat_mk ⟨_, rfl, trivial⟩
   rintro ⟨a1, a2, a3, a4, a5, a6⟩ _
   refine i_cond (fun _ => i_cond (fun _ => i_call (next_tot _ _ (by omega)) fun r _ => i_cond (fun _ => sat_mono (listL2_tot hs _ _ _ _) ?_) (fun _ => sat_mk ⟨_, rfl, trivial⟩)) (fun _ => sat_mk ⟨_, rfl, trivial⟩)) (fun _ => sat_mk ⟨_, rfl, trivial⟩)
   rintro o ⟨r, rfl⟩
   exact ⟨_, rfl, trivial⟩
 rintro ⟨s243, l244⟩ _
 exact sat_mk ⟨glK _ _ _ _ _ _ _ _ _ (by simp) (by simp) (fun x hx => by obtain rfl := List.mem_singleton.1 hx; exact hr.1) (by omega), fin (xn, _) hr.2⟩
theorem VT.p7 {s : PT} {k : Nat} {m p : BA} {lo hi : Int} {ps : PT} (h : VT s k (.mk 7 m lo hi p ps)) : ps ≠ [] ∧ ps.length ≤ 30 ∧ ∀ x, x ∈ ps → VT s k x.2 := by
 cases h with
 | num _ _ _ _ _ _ hk => omega
 | choice _ _ _ _ _ h0 h1 h => exact ⟨h0, h1, fun x hx => (h x hx).succ⟩
theorem VT.p89 {s : PT} {k : Nat} {kd : Int} (hk : kd = 8 ∨ kd = 9) {m p : BA} {lo hi : Int} {ps : PT} (h : VT s k (.mk kd m lo hi p ps)) : ∃ x, ps = [x] ∧ VT s k x.2 ∧ 0 ≤ lo ∧ lo ≤ hi ∧ hi ≤ 10 := by
 cases h with
 | num _ _ _ _ _ _ hk => omega
 | list _ _ _ _ x h h0 h1 h2 => exact ⟨x, rfl, h.succ, h0, h1, h2⟩
 | map _ _ _ _ x h h0 h1 h2 => exact ⟨x, rfl, h.succ, h0, h1, h2⟩
 | _ => omega
theorem VT.p124 {s : PT} {k : Nat} {kd : Int} (hk : kd = 1 ∨ kd = 2 ∨ kd = 4) {m p : BA} {lo hi : Int} {ps : PT} (h : VT s k (.mk kd m lo hi p ps)) : -9007199254740992 ≤ lo ∧ lo ≤ hi ∧ hi ≤ 9007199254740992 := by
 cases h with
 | num _ _ _ _ _ _ hk h0 h1 h2 => exact ⟨h0, h1, h2⟩
 | _ => omega
theorem i_flag {τ : Type} {m : Option (Sum τ Bool)} {K : Bool → Option τ} {R : τ → Prop} (P : Bool → Prop) (h : sat m fun o => ∃ b, o = .inr b ∧ P b) (k1 : P true → sat (K true) R) (k0 : P false → sat (K false) R) : sat (sbind m K) R := by
 obtain ⟨_, rfl, x, rfl, hx⟩ := h
 cases x
 · exact k0 hx
 · exact k1 hx
theorem step0 {s : PT} (hs : Sch s) {k : Nat} (hk : 3 ≤ k) (A B C : Tp → Tp → Int → PT → LI → Option (Ln × Tp × LI)) (t : Tp) (ht : VT s k t) (l : LI) : sat (b406 A B C t 0 s l) fun r => GL 1 r.1 ∧ VT s (k + 1) r.2.1 := by
 obtain ⟨k1, m1, lo1, hi1, p1, ps1⟩ := t
 unfold b406
 dsimp only
 refine i_any (fun _ => True) ?_ ?_
 · refine i_call (mres2 s (by have := hs.length; omega) _) fun r _ => ?_
   obtain ⟨⟩ := r
   exact sat_mk ⟨_, rfl, trivial⟩
 rintro ⟨a1, a2, a3, a4, a5, a6⟩ _
 refine i_call (next_tot _ _ (by omega)) fun r _ => i_cond (fun _ => ?_) (fun _ => i_cond (fun _ => ?_) (fun c => by simp at c))
 · exact i_sbind (sat_mk (sat_mk ⟨glE _ _ _ _ _ _ _ (by omega), .choice _ _ _ _ _ (by simp) (by simp) fun x hx => by obtain rfl := List.mem_singleton.1 hx; exact ht⟩))
 · rw [same_eq]; exact sat_mk ⟨glE _ _ _ _ _ _ _ (by omega), ht.succ⟩
theorem stepS {s : PT} (hs : Sch s) {d k : Nat} (hk : 3 ≤ k) (A B C : Tp → Tp → Int → PT → LI → Option (Ln × Tp × LI)) (t : Tp) (ht : VT s k t)
 (hA : ∀ (k7 : Int) (h7 : k7 = 8 ∨ k7 = 9) (m : BA) (lo hi : Int) (p : BA) (x : BA × Tp) (hx : VT s k x.2) (hlo : 0 ≤ lo) (hlh : lo ≤ hi) (hhi : hi ≤ 10) (l : LI), sat (A t (.mk k7 m lo hi p [x]) ((d + 1 : Nat) : Int) s l) (ST s d k))
 (hB : ∀ (m : BA) (lo hi : Int) (p : BA) (ps : PT) (hne : ps ≠ []) (hl : ps.length ≤ 30) (hp : ∀ x, x ∈ ps → VT s k x.2) (l : LI), sat (B t (.mk 7 m lo hi p ps) ((d + 1 : Nat) : Int) s l) (ST s d k))
 (hC : ∀ (m : BA) (lo hi : Int) (p : BA) (ps : PT) (hl : ps.length ≤ 30) (hp : ∀ x, x ∈ ps → VT s k x.2) (l : LI), sat (C t (.mk 6 m lo hi p ps) ((d + 1 : Nat) : Int) s l) (ST s d k))
 (l : LI) : sat (b406 A B C t ((d + 1 : Nat) : Int) s l) (ST s d k) := by
 have hgp := gg_pos d
 obtain ⟨k1, m1, lo1, hi1, p1, ps1⟩ := t
 have hsame : ∀ l : LI, ST s d k (.mk 0 ⟨#[]⟩ ⟨#[]⟩ [] 0 0 0 0 (.mk 0 0 ⟨#[]⟩ []) [] [], .mk k1 m1 lo1 hi1 p1 ps1, l) := fun l => ⟨glE _ _ _ _ _ _ _ (by omega), ht.le (by omega)⟩
 unfold b406
 dsimp only
 refine i_any (fun z : Int × BA × Int × Int × BA × PT => VT s k (.mk z.1 z.2.1 z.2.2.1 z.2.2.2.1 z.2.2.2.2.1 z.2.2.2.2.2)) ?_ ?_
 · refine i_call (mres_vt hs hk ht) fun r hr => ?_
   obtain ⟨⟩ := r
   exact sat_mk ⟨_, rfl, hr.1⟩
 rintro ⟨a1, a2, a3, a4, a5, a6⟩ ha
 dsimp only at ha ⊢
 refine i_call (next_tot _ _ (by omega)) fun r _ => i_cond (fun _ => ?_) (fun _ => i_cond (fun c => ?_) (fun _ => i_cond (fun c => ?_) (fun _ => i_cond (fun c => ?_) (fun _ => ?_))))
 · exact i_sbind (sat_mk (sat_mk ⟨glE _ _ _ _ _ _ _ (by omega), (VT.choice _ _ _ _ _ (by simp) (by simp) fun x hx => by obtain rfl := List.mem_singleton.1 hx; exact ht : VT s (k + 1) _).le (by omega)⟩))
 · rw [same_eq]; exact sat_mk (hsame _)
 · obtain rfl : a1 = 6 := by simpa using c
   refine i_call (hC _ _ _ _ _ ha.parts2.1 ha.parts2.2 _) fun r hr => ?_
   obtain ⟨⟨op, a, b, c, e, f, g, h, ⟨⟩, pr, kk⟩, ⟨⟩, l'⟩ := r
   exact sat_mk hr
 · obtain rfl : a1 = 7 := by simpa using c
   obtain ⟨g0, g1, g2⟩ := ha.p7
   refine i_call (hB _ _ _ _ _ g0 g1 g2 _) fun r hr => ?_
   obtain ⟨⟨op, a, b, c, e, f, g, h, ⟨⟩, pr, kk⟩, ⟨⟩, l'⟩ := r
   exact sat_mk hr
 refine i_flag (fun b => b = true → a1 = 8 ∨ a1 = 9) ?_ ?_ ?_
 · exact i_cond (fun c => sat_mk ⟨_, rfl, fun _ => .inl (by simpa using c)⟩) (fun _ => i_cond (fun c => sat_mk ⟨_, rfl, fun _ => .inr (by simpa using c)⟩) (fun _ => sat_mk ⟨_, rfl, by simp⟩))
 · intro h89
   obtain ⟨x, rfl, g0, g1, g2, g3⟩ := ha.p89 (h89 rfl)
   refine i_call (hA _ (h89 rfl) _ _ _ _ x g0 g1 g2 g3 _) fun r hr => ?_
   obtain ⟨⟨op, a, b, c, e, f, g, h, ⟨⟩, pr, kk⟩, ⟨⟩, l'⟩ := r
   exact sat_mk hr
 · intro _
   refine i_flag (fun b => b = true → a1 = 1 ∨ a1 = 2 ∨ a1 = 4) ?_ ?_ ?_
   · exact i_cond (fun c => sat_mk ⟨_, rfl, fun _ => .inl (by simpa using c)⟩) (fun _ => i_cond (fun c => sat_mk ⟨_, rfl, fun _ => .inr (.inl (by simpa using c))⟩) (fun _ => i_cond (fun c => sat_mk ⟨_, rfl, fun _ => .inr (.inr (by simpa using c))⟩) (fun _ => sat_mk ⟨_, rfl, by simp⟩)))
   · intro h
     obtain ⟨g0, g1, g2⟩ := ha.p124 (h rfl)
     refine i_call (look_tot (d := 2 * d + 1) _ (ht.le (show k ≤ k + gg d + 1 by omega)) _ _ _ _ _ _ g0 g1 g2 _ _) fun r hr => ?_
     obtain ⟨⟨op, a, b, c, e, f, g, h, ⟨⟩, pr, kk⟩, ⟨⟩, l'⟩ := r
     exact sat_mk hr
   · intro _
     show sat (cond (a1 == 5) _ _) _
     refine i_cond (fun _ => i_call (text_tot (d := 2 * d + 1) _ (ht.le (show k ≤ k + gg d + 1 by omega)) _ _ _) fun r hr => ?_) (fun _ => ?_)
     · obtain ⟨⟨op, a, b, c, e, f, g, h, ⟨⟩, pr, kk⟩, ⟨⟩⟩ := r
       exact sat_mk hr
     · rw [same_eq]; exact sat_mk (hsame _)
theorem lensL2 {s : PT} {k : Nat} (step : Mk) (v7 : Int) (G D : Nat) (hstep : ∀ i, i < 3 → ∀ (t : Tp) (l : LI), VT s (k + i * G) t → sat (step t v7 s l) fun r => GL D r.1 ∧ VT s (k + (i + 1) * G) r.2.1) :
 ∀ (g i : Nat) (v : Int) (ks : List Ln) (k1 : Int) (m : BA) (lo hi : Int) (p : BA) (ps : PT) (l : LI), i + g ≤ 3 → ks.length + g ≤ 10 → VT s (k + i * G) (.mk k1 m lo hi p ps) → (∀ x, x ∈ ks → GL D x) →
  sat (f377_L2 step v7 s g v ks k1 m lo hi p ps l) fun o => ∃ k' m' lo' hi' p' ps' l' ks', o = .inr (k', m', lo', hi', p', ps', l', ks') ∧ VT s (k + 3 * G) (.mk k' m' lo' hi' p' ps') ∧ ks'.length ≤ 10 ∧ ∀ x, x ∈ ks' → GL D x := by
 intro g
 induction g with
 | zero => exact fun i v ks k1 m lo hi p ps l hi3 hk ht hks => sat_mk ⟨_, _, _, _, _, _, _, _, rfl, ht.le (by have := Nat.mul_le_mul_right G (show i ≤ 3 by omega); omega), by omega, hks⟩
 | succ g ih =>
  intro i v ks k1 m lo hi p ps l hi3 hk ht hks
  refine i_call (hstep i (by omega) _ l ht) fun r hr => ?_
  obtain ⟨⟨op, a, b, c, e, f, g, h, ⟨⟩, pr, kk⟩, ⟨⟩, l'⟩ := r
  exact i_grdP (by simp; omega) (ih (i + 1) _ _ _ _ _ _ _ _ _ (by omega) (by simp; omega) hr.2 (all_snoc hks hr.1))
theorem lens_body {s : PT} {d k : Nat} (hd : d ≤ 50) (step : Mk) (hstep : ∀ i, i < 3 → ∀ (t : Tp) (l : LI), VT s (k + i * (gg d + 1)) t → sat (step t ((d + 1 : Nat) : Int) s l) fun r => GL (2 * d + 2) r.1 ∧ VT s (k + (i + 1) * (gg d + 1)) r.2.1) (t : Tp) (ht : VT s k t) (l : LI) :
 sat (b377 step t ((d + 1 : Nat) : Int) s l) fun r => GL (2 * (d + 1) + 1) r.1 ∧ VT s (k + gg (d + 1)) r.2.1 := by
 have e : gg (d + 1) = 3 * (gg d + 1) := rfl
 obtain ⟨k1, m1, lo1, hi1, p1, ps1⟩ := t
 unfold b377
 dsimp only
 refine i_call (next_tot _ _ (by omega)) fun r hr => ?_
 obtain ⟨v10, l11⟩ := r
 dsimp only at hr ⊢
 have h1 := fun l => hstep 0 (by omega) (.mk k1 m1 lo1 hi1 p1 ps1) l (by simpa using ht)
 refine i_cond (fun _ => ?_) (fun c => i_cond (fun c => ?_) (fun _ => i_sbind (i_grdP (by omega) (sat_mono (lensL2 step _ (gg d + 1) (2 * d + 2) hstep _ 0 0 [] _ _ _ _ _ _ _ (by omega) (by simp; omega) (by simpa using ht) (by simp)) ?_))))
 · refine i_call (h1 _) fun r hr => ?_
   obtain ⟨⟨op, a, b, c, e, f, g, h, ⟨⟩, pr, kk⟩, ⟨⟩, l'⟩ := r
   exact sat_mk ⟨hr.1.le (by omega), hr.2.le (by omega)⟩
 · simp at c; omega
 · rintro o ⟨k', m', lo', hi', p', ps', l', ks', rfl, g1, g2, g3⟩
   exact sat_mk ⟨glK _ _ _ _ _ _ _ _ _ (by simp) (by show ks'.length ≤ 100; omega) g3 (by omega), g1⟩
theorem lens_body0 {s : PT} {k : Nat} (step : Mk) (hstep : ∀ (t : Tp) (l : LI), VT s k t → sat (step t 0 s l) fun r => GL 1 r.1 ∧ VT s (k + 1) r.2.1) (t : Tp) (ht : VT s k t) (l : LI) :
 sat (b377 step t 0 s l) fun r => GL 1 r.1 ∧ VT s (k + 1) r.2.1 := by
 obtain ⟨k1, m1, lo1, hi1, p1, ps1⟩ := t
 unfold b377
 dsimp only
 refine i_call (next_tot _ _ (by omega)) fun r hr => ?_
 refine i_cond (fun _ => ?_) (fun c => i_cond (fun c => ?_) (fun c => by simp at c))
 all_goals
  refine i_call (hstep _ _ ht) fun r hr => ?_
  obtain ⟨⟨op, a, b, c, e, f, g, h, ⟨⟩, pr, kk⟩, ⟨⟩, l'⟩ := r
  exact sat_mk hr
theorem lens_tot {s : PT} (hs : Sch s) : ∀ (d : Nat), d ≤ 10 → ∀ (k : Nat), 3 ≤ k → k + gg d ≤ 80 → ∀ (n : Nat), 60113 + 3 * d ≤ n → LT s (f377 n) d k
 | 0, _, k, hk, hk2, n, hn => by
  intro t l ht
  obtain ⟨n, rfl⟩ : ∃ m, n = m + 2 := ⟨n - 2, by omega⟩
  exact lens_body0 _ (fun t l ht => step0 hs hk _ _ _ t ht l) t ht l
 | d + 1, hd, k, hk, hk2, n, hn => by
  intro t l ht
  have e : gg (d + 1) = 3 * (gg d + 1) := rfl
  obtain ⟨n, rfl⟩ : ∃ m, n = m + 3 := ⟨n - 3, by omega⟩
  refine lens_body (by omega) _ (fun i hi t l ht => ?_) t ht l
  have hi3 : (i + 1) * (gg d + 1) ≤ 3 * (gg d + 1) := Nat.mul_le_mul_right _ (by omega)
  have hi4 : (i + 1) * (gg d + 1) = i * (gg d + 1) + (gg d + 1) := Nat.succ_mul _ _
  have hself : LT s (f377 n) d (k + i * (gg d + 1)) := lens_tot hs d (by omega) _ (by omega) (by omega) n (by omega)
  have := stepS (d := d) hs (k := k + i * (gg d + 1)) (by omega) (S377 (n + 1)).2.2.1 (S377 (n + 1)).2.2.2.1 (S377 (n + 1)).2.2.2.2 t ht
   (fun k7 h7 m lo hi p x hx g0 g1 g2 l => list_mk hs (by omega) (by omega) (by omega) n (by omega) _ hself t ht k7 h7 m lo hi p x hx g0 g1 g2 l)
   (fun m lo hi p ps g0 g1 g2 l => choice_mk hs (by omega) (by omega) (by omega) n (by omega) _ hself t ht m lo hi p ps g0 g1 g2 l)
   (fun m lo hi p ps g1 g2 l => record_mk hs (by omega) (by omega) (by omega) n (by omega) _ hself t ht m lo hi p ps g1 g2 l) l
  exact sat_mono this fun r hr => ⟨hr.1, hr.2.le (by omega)⟩
end Go.Clap
