/- The checks of the small code against the loaded functions. -/
import Derived.Test.YtnielhfaioakkaaGreatClapM6
set_option linter.unusedVariables false
set_option linter.unusedSimpArgs false
set_option maxRecDepth 100000
namespace Go.Clap
theorem rev_tot (P : BA → Prop) : ∀ (g : Nat) (l : LB) (v w : Int), 0 ≤ v → w < l.length → l.length ≤ 1000 → w - v < g → (∀ x, x ∈ l → P x) → 1 ≤ g → sat (f458_L1 g l v w) fun r => r.length = l.length ∧ ∀ x, x ∈ r → P x := by
 intro g
 induction g with
 | zero => intro l v w h0 h1 h2 h3 h4 h5; omega
 | succ g ih =>
  intro l v w h0 h1 h2 h3 h4 _
  unfold f458_L1
  refine i_cond (fun c => ?_) (fun _ => sat_mk ⟨rfl, h4⟩)
  have c : v < w := by simpa using c
  refine i_grdP ⟨by omega, by omega⟩ (i_getN (by omega) fun a ha _ => i_grdP ⟨by omega, by omega⟩ (i_getN (by omega) fun b hb _ => i_grdP ⟨by omega, by omega⟩ (i_getN (by omega) fun c hc _ => i_grdP ⟨by omega, by omega⟩ (i_getN (by simp; omega) fun d hd _ => ?_))))
  rw [wrap_id (x := v + 1) (by omega) (by omega), wrap_id (x := w - 1) (by omega) (by omega)]
  refine sat_mono (ih _ _ _ (by omega) (by simp; omega) (by simp; omega) (by omega) (all_set (all_set h4 (h4 _ ha)) (h4 _ hb)) (by omega)) fun r hr => ⟨by rw [hr.1]; simp, hr.2⟩
theorem containsB_tot (l : LB) (s : BA) : sat (f170 l s) fun _ => True := by
 have hL : ∀ (l : LB) (j : Nat), sat (f174_L2 s l j) fun _ => True := by
  intro l
  induction l with
  | nil => exact fun j => sat_mk trivial
  | cons x l ih => exact fun j => i_cond (fun _ => i_lft (sat_mk trivial)) (fun _ => ih _)
 unfold f170 f174
 dsimp only
 refine i_call (Q := fun _ => True) (i_sbind (sat_mono (hL l 0) ?_)) fun r _ => i_cond (fun _ => sat_mk trivial) (fun _ => sat_mk trivial)
 rintro (o | o) _
 · trivial
 · exact sat_mk trivial
theorem nest_tot {s : PT} {d k : Nat} (n : Nat) (hn : 100 ≤ n) (m : BA) (lo hi : Int) (p : BA) (ps : PT) (hl : ps.length ≤ 30) (hp : ∀ x, x ∈ ps → VT s k x.2) (l8 : LI) :
 sat (f444 n (.mk 6 m lo hi p ps) s l8) fun r => GL (d + 1) r.1 ∧ VT s (k + 2) r.2.1 := by
 have h2 : ∀ (v : Int) (l : PT) (j : Nat) (a : LB) (st : LI), (∀ x, x ∈ l → x ∈ ps) → a.length + l.length ≤ 100 → (∀ w, w ∈ a → ∃ x, x ∈ ps ∧ x.1 = w) → sat (f444_L2 v l j a st) fun o => ∃ st' a', o = .inr (st', a') ∧ a'.length ≤ a.length + l.length ∧ ∀ w, w ∈ a' → ∃ x, x ∈ ps ∧ x.1 = w := by
  intro v l
  induction l with
  | nil => exact fun j a st h1 h2 h3 => sat_mk ⟨_, _, rfl, by simp, h3⟩
  | cons x l ih =>
   intro j a st h1 h2 h3
   obtain ⟨nm, ⟨k1, m1, lo1, hi1, p1, ps1⟩⟩ := x
   have hx := h1 _ List.mem_cons_self
   have ih' := fun j a st => ih j a st fun x hx => h1 x (List.mem_cons_of_mem _ hx)
   rw [List.length_cons] at h2
   have hadd : sat (f444_L2 v l (j + 1) (a ++ [nm]) st) fun o => ∃ st' a', o = .inr (st', a') ∧ a'.length ≤ a.length + (l.length + 1) ∧ ∀ w, w ∈ a' → ∃ x, x ∈ ps ∧ x.1 = w := by
    refine sat_mono (ih' (j + 1) _ st (by simp; omega) (all_snoc h3 ⟨_, hx, rfl⟩)) ?_
    rintro o ⟨st', a', rfl, g1, g2⟩
    exact ⟨_, _, rfl, by simp at g1; omega, g2⟩
   refine i_cond (fun _ => i_grdP (by simp; omega) hadd) (fun _ => i_call (next_tot _ _ (by omega)) fun r _ => i_cond (fun _ => i_grdP (by simp; omega) ?_) (fun _ => ?_))
   · refine sat_mono (ih' (j + 1) _ r.2 (by simp; omega) (all_snoc h3 ⟨_, hx, rfl⟩)) ?_
     rintro o ⟨st', a', rfl, g1, g2⟩
     exact ⟨_, _, rfl, by simp at g1 ⊢; omega, g2⟩
   · refine sat_mono (ih' (j + 1) _ r.2 (by omega) h3) ?_
     rintro o ⟨st', a', rfl, g1, g2⟩
     exact ⟨_, _, rfl, by simp; omega, g2⟩
 have h4 : ∀ (ns : LB), (∀ w, w ∈ ns → ∃ x, x ∈ ps ∧ x.1 = w) → ns.length ≤ 100 → ∀ (g : Nat) (v : Int) (a : PT), 0 ≤ v → v + g = ns.length → a.length + g ≤ 100 → (∀ x, x ∈ a → VT s k x.2) → sat (f444_L4 6 m lo hi p ps ns g v a) fun o => ∃ a', o = .inr a' ∧ a'.length = a.length + g ∧ ∀ x, x ∈ a' → VT s k x.2 := by
  intro ns hns hnl g
  induction g with
  | zero => exact fun v a h0 h1 h2 h3 => sat_mk ⟨_, rfl, rfl, h3⟩
  | succ g ih =>
   intro v a h0 h1 h2 h3
   unfold f444_L4
   refine i_grdP ⟨h0, by omega⟩ (i_getN (by omega) fun w hw _ => i_call (index_tot 6 m lo hi p ps w) fun i hi => i_getL (hi.2 (hns w hw)) hi.1 fun u hu _ => ?_)
   obtain ⟨nm, ⟨k1, m1, lo1, hi1, p1, ps1⟩⟩ := u
   refine i_grdP (by simp; omega) (sat_mono (ih (v + 1) _ (by omega) (by omega) (by simp; omega) (all_snoc h3 (hp _ hu))) ?_)
   rintro o ⟨a', rfl, g1, g2⟩
   exact ⟨_, rfl, by rw [g1]; simp; omega, g2⟩
 have h6 : ∀ (s9 : BA) (ns : LB) (inn : PT), inn.length ≤ 30 → (∀ x, x ∈ inn → VT s k x.2) → ∀ (l : PT) (j : Nat) (a : PT) (q : Bool), (∀ x, x ∈ l → VT s k x.2) → a.length + l.length ≤ 100 → (∀ x, x ∈ a → VT s (k + 1) x.2) → sat (f444_L6 s9 ns inn l j a q) fun o => ∃ a', o = .inr a' ∧ a'.length ≤ a.length + l.length ∧ ∀ x, x ∈ a' → VT s (k + 1) x.2 := by
  intro s9 ns inn hi1 hi2 l
  induction l with
  | nil => exact fun j a q h1 h2 h3 => sat_mk ⟨_, rfl, by simp, h3⟩
  | cons x l ih =>
   intro j a q h1 h2 h3
   obtain ⟨nm, ⟨k1, m1, lo1, hi1', p1, ps1⟩⟩ := x
   have hx := h1 _ List.mem_cons_self
   have ih' := fun j a q => ih j a q fun x hx => h1 x (List.mem_cons_of_mem _ hx)
   rw [List.length_cons] at h2
   refine i_call (containsB_tot _ _) fun q1 _ => i_cond (fun _ => i_cond (fun _ => ?_) (fun _ => i_grdP (by simp; omega) ?_)) (fun _ => i_grdP (by simp; omega) ?_)
   · refine sat_mono (ih' (j + 1) a true (by omega) h3) ?_
     rintro o ⟨a', rfl, g1, g2⟩
     exact ⟨_, rfl, by simp; omega, g2⟩
   · refine sat_mono (ih' (j + 1) _ true (by simp; omega) (all_snoc h3 (VT.record _ _ _ _ _ hi1 hi2))) ?_
     rintro o ⟨a', rfl, g1, g2⟩
     exact ⟨_, rfl, by simp at g1 ⊢; omega, g2⟩
   · refine sat_mono (ih' (j + 1) _ q (by simp; omega) (all_snoc h3 hx.succ)) ?_
     rintro o ⟨a', rfl, g1, g2⟩
     exact ⟨_, rfl, by simp at g1 ⊢; omega, g2⟩
 unfold f444
 dsimp only
 refine i_call (fresh_tot _ _ _ _ _ _ _ _) fun r _ => ?_
 obtain ⟨s9, l10⟩ := r
 refine i_call (next_tot _ _ (by omega)) fun r _ => ?_
 obtain ⟨v12, l13⟩ := r
 refine i_sbind (sat_mono (h2 v12 ps 0 [] l13 (fun x hx => hx) (by simp; omega) (by simp)) ?_)
 rintro o ⟨l58, l59, rfl, g1, g2⟩
 rw [List.length_nil, Nat.zero_add] at g1
 refine i_any (fun x : LI × LB => x.2.length = l59.length ∧ ∀ w, w ∈ x.2 → ∃ y, y ∈ ps ∧ y.1 = w) ?_ ?_
 · refine i_call (next_tot _ _ (by omega)) fun r _ => ?_
   obtain ⟨v114, l115⟩ := r
   refine i_cond (fun _ => i_call (Q := fun r : LB => r.length = l59.length ∧ ∀ w, w ∈ r → ∃ y, y ∈ ps ∧ y.1 = w) ?_ fun r hr => sat_mk ⟨_, rfl, hr⟩) (fun _ => sat_mk ⟨_, rfl, rfl, g2⟩)
   unfold f458
   show sat (f458_L1 n l59 0 (IntKind.wrap .i64 ((l59.length : Int) - 1))) _
   rw [wrap_id (by omega) (by omega)]
   exact rev_tot _ n l59 0 _ (by omega) (by omega) (by omega) (by omega) g2 (by omega)
 rintro ⟨l110, l111⟩ ⟨g3, g4⟩
 dsimp only at g3 g4 ⊢
 refine i_sbind (i_grdP (by omega) (sat_mono (h4 l111 g4 (by omega) _ 0 [] (by omega) (by omega) (by simp; omega) (by simp)) ?_))
 rintro o ⟨inn, rfl, g5, g6⟩
 rw [List.length_nil, Nat.zero_add] at g5
 refine i_sbind (sat_mono (h6 s9 l111 inn (by omega) g6 ps 0 [] false hp (by simp; omega) (by simp)) ?_)
 rintro o ⟨out, rfl, g7, g8⟩
 rw [List.length_nil, Nat.zero_add] at g7
 exact sat_mk ⟨gl0 _ _ _ _ _ _ _ _ _ (by omega) (wv0 ..) (by omega), .record _ _ _ _ _ (by omega) g8⟩
theorem sel_tot {s : PT} (hs : Sch s) {d k : Nat} (hk : 3 ≤ k) (hk80 : k ≤ 85) (n : Nat) (hn : 60110 ≤ n) (m : BA) (lo hi : Int) (p : BA) (x : BA × Tp) (hlo : 0 ≤ lo) (hlh : lo ≤ hi) (hhi : hi ≤ 10)
 (m7 : BA) (lo7 hi7 : Int) (p7 : BA) (ps : PT) (hl : ps.length ≤ 30) (hp : ∀ x, x ∈ ps → VT s k x.2) (l14 : LI) :
 sat (f448 n (.mk 8 m lo hi p [x]) (.mk 6 m7 lo7 hi7 p7 ps) s l14) fun r => r.2.2.1 = true → GL (d + 1) r.1 ∧ VT s (k + 2) r.2.1 := by
 have hL : ∀ (l : PT) (j : Nat), (∀ x, x ∈ l → VT s k x.2) → j + l.length = ps.length → sat (f448_L2 n 8 m lo hi p [x] 6 m7 lo7 hi7 p7 ps s l14 l j) fun o => (∃ r, o = .inl r ∧ (r.2.2.1 = true → GL (d + 1) r.1 ∧ VT s (k + 2) r.2.1)) ∨ o = .inr () := by
  intro l
  induction l with
  | nil => exact fun j _ _ => sat_mk (.inr rfl)
  | cons y l ih =>
   intro j h1 h2
   obtain ⟨nm, ⟨k1, m1, lo1, hi1, p1, ps1⟩⟩ := y
   have hy := h1 _ List.mem_cons_self
   rw [List.length_cons] at h2
   unfold f448_L2
   refine i_any (fun z : Int × BA × Int × Int × BA × PT => VT s k (.mk z.1 z.2.1 z.2.2.1 z.2.2.2.1 z.2.2.2.2.1 z.2.2.2.2.2)) ?_ ?_
   · refine i_call (mres_vt hs hk hy) fun r hr => ?_
     obtain ⟨⟩ := r
     exact sat_mk ⟨_, rfl, hr.1⟩
   rintro ⟨a1, a2, a3, a4, a5, a6⟩ ha
   dsimp only at ha ⊢
   refine i_any (fun b : Bool => b = true → a1 = 1 ∨ a1 = 2 ∨ a1 = 4 ∨ a1 = 5) ?_ ?_
   · exact i_cond (fun c => sat_mk ⟨_, rfl, fun _ => .inl (by simpa using c)⟩) (fun _ => i_cond (fun c => sat_mk ⟨_, rfl, fun _ => .inr (.inl (by simpa using c))⟩) (fun _ => i_cond (fun c => sat_mk ⟨_, rfl, fun _ => .inr (.inr (.inl (by simpa using c)))⟩) (fun _ => i_cond (fun c => sat_mk ⟨_, rfl, fun _ => .inr (.inr (.inr (by simpa using c)))⟩) (fun _ => sat_mk ⟨_, rfl, by simp⟩))))
   intro q hq
   refine i_cond (fun c => ?_) (fun _ => ih _ (fun x hx => h1 x (List.mem_cons_of_mem _ hx)) (by omega))
   · have hq := hq c
     have hc : a1 ∈ ([0, 1, 2, 4, 5] : LI) := by simp only [List.mem_cons, List.not_mem_nil, or_false]; omega
     have hc10 : a1 ≠ 10 := by omega
     refine i_any (fun z : Int × Int × BA × FV × LI => WV 100 (.mk z.1 z.2.1 z.2.2.1 z.2.2.2.1) ∧ Sc (.mk z.1 z.2.1 z.2.2.1 z.2.2.2.1) ∧ z.1 = a1) ?_ ?_
     · refine i_call (val_vt hs ha 0 (by omega) (by omega) n (by omega) l14) fun r hr => ?_
       obtain ⟨⟨⟩, l'⟩ := r
       exact sat_mk ⟨_, rfl, hr.1.le (by omega), hr.2.1, hr.2.2 hc10⟩
     rintro ⟨b1, b2, b3, b4, b5⟩ ⟨hb1, hb2, hb3⟩
     dsimp only at hb1 hb2 hb3 ⊢
     refine i_any (fun z : Int × BA × Int × Int × BA × Int × BA × Int × Int × BA × PT × PT => z = (6, m7, lo7, hi7, p7, 8, m, lo, hi, p, ps, [x])) ?_ ?_
     · refine i_call (clone_tot _ _ _ _ _ _ (by omega)) fun r hr => ?_
       subst hr
       refine i_call (clone_tot _ _ _ _ _ _ (by simp)) fun r hr => ?_
       subst hr
       exact sat_mk ⟨_, rfl, rfl⟩
     rintro _ rfl
     dsimp only
     refine i_call (only_tot (s := s) (k := k) (.mk b1 b2 b3 b4) hb2 (by show b1 ∈ _; rw [hb3]; exact hc)) fun r hr => ?_
     obtain ⟨⟩ := r
     refine i_grdP (by omega) (i_getN (by omega) fun u hu _ => ?_)
     obtain ⟨u1, ⟨⟩⟩ := u
     have hin := VT.record (s := s) m7 lo7 hi7 p7 _ (by simp; omega) (all_set (i := 0 + ((j : Nat) : Int).toNat) (a := (u1, _)) (P := fun x => VT s k x.2) hp hr)
     refine i_any (fun z : PT => ∃ y, z = [y] ∧ VT s (k + 1) y.2) ?_ ?_
     · refine i_grdP (by simp) (i_getN (by simp) fun u hu _ => ?_)
       obtain ⟨u2, ⟨⟩⟩ := u
       exact sat_mk ⟨_, rfl, _, rfl, hin⟩
     · rintro _ ⟨y, rfl, hy⟩
       exact i_lft (sat_mk (.inl ⟨_, rfl, fun _ => ⟨gl0 _ _ _ _ _ _ _ _ _ (by simp) hb1 (by omega), .list _ _ _ _ _ hy (by omega) (by omega) hhi⟩⟩))
 unfold f448
 dsimp only
 refine i_sbind (sat_mono (hL ps 0 hp (by simp)) ?_)
 rintro o (⟨r, rfl, h⟩ | rfl)
 · exact h
 · exact sat_mk (by simp)
theorem listL2_tot {s : PT} (hs : Sch s) (l280 : LI) : ∀ (l : PT) (j : Nat) (a : BA), sat (f427_L2 s l280 l j a) fun o => ∃ r, o = .inr r := by
 intro l
 induction l with
 | nil => exact fun j a => sat_mk ⟨_, rfl⟩
 | cons x l ih =>
  intro j a
  obtain ⟨nm, ⟨k1, m1, lo1, hi1, p1, ps1⟩⟩ := x
  refine i_call (mres2 s (by have := hs.length; omega) _) fun r _ => ?_
  obtain ⟨⟩ := r
  exact i_cond (fun _ => i_cond (fun _ => ih _ _) (fun _ => ih _ _)) (fun _ => ih _ _)
end Go.Clap
