/- The checks of the small code against the loaded functions. -/
import Derived.Test.YtnielhfaioakkaaGreatClapM7
set_option linter.unusedVariables false
set_option linter.unusedSimpArgs false
set_option maxRecDepth 100000
namespace Go.Clap
def gg : Nat → Nat
 | 0 => 1
 | d + 1 => 3 * (gg d + 1)
theorem gg_pos : ∀ d, 1 ≤ gg d
 | 0 => Nat.le_refl _
 | d + 1 => by unfold gg; omega
abbrev Mk := Tp → Int → PT → LI → Option (Ln × Tp × LI)
def LT (s : PT) (self : Mk) (d k : Nat) : Prop := ∀ (t : Tp) (l : LI), VT s k t → sat (self t (d : Int) s l) fun r => GL (2 * d + 1) r.1 ∧ VT s (k + gg d) r.2.1
def ST (s : PT) (d k : Nat) (r : Ln × Tp × LI) : Prop := GL (2 * d + 2) r.1 ∧ VT s (k + gg d + 1) r.2.1
theorem record_mk {s : PT} (hs : Sch s) {d k : Nat} (hd : d ≤ 50) (hk : 3 ≤ k) (hk2 : k + gg d + 1 ≤ 80) (n : Nat) (hn : 60110 ≤ n) (self : Mk) (hself : LT s self d k) (t : Tp) (ht : VT s k t)
 (m : BA) (lo hi : Int) (p : BA) (ps : PT) (hl : ps.length ≤ 30) (hp : ∀ x, x ∈ ps → VT s k x.2) (l : LI) : sat (b425 n self t (.mk 6 m lo hi p ps) ((d + 1 : Nat) : Int) s l) (ST s d k) := by
 have hgp := gg_pos d
 have fin : ∀ (qs : PT), qs.length ≤ 30 → (∀ x, x ∈ qs → VT s k x.2) → VT s (k + gg d + 1) (.mk 6 m lo hi p qs) := fun qs h1 h2 => .record _ _ _ _ _ h1 fun x hx => (h2 x hx).le (by omega)
 have hpg : ∀ x, x ∈ ps → VT s (k + gg d) x.2 := fun x hx => (hp x hx).le (by omega)
 obtain ⟨k1, m1, lo1, hi1, p1, ps1⟩ := t
 unfold b425
 dsimp only
 rw [wrap_pred d (by omega)]
 refine i_any (fun z : Int × BA × Int × Int × BA × PT => z = (6, m, lo, hi, p, ps)) ?_ ?_
 · refine i_call (clone_tot _ _ _ _ _ _ (by omega)) fun r hr => ?_
   subst hr
   exact sat_mk ⟨_, rfl, rfl⟩
 rintro _ rfl
 dsimp only
 refine i_cond (fun _ => ?_) (fun c21 => ?_)
 · rw [same_eq]; exact sat_mk ⟨glE _ _ _ _ _ _ _ (by omega), ht.le (by omega)⟩
 have hlen : ps.length ≤ 21 := by simp at c21; omega
 refine i_sbind (sat_mono (R := fun o => (∃ r, o = .inl r ∧ ST s d k r) ∨ ∃ st, o = .inr st ∧ ps.length ≠ 0) ?_ ?_)
 · refine i_any (fun z : Bool × LI => z.1 = false → ps.length ≠ 0) ?_ ?_
   · refine i_cond (fun _ => sat_mk ⟨_, rfl, by simp⟩) (fun c0 => i_call (next_tot _ _ (by omega)) fun r _ => i_cond (fun _ => sat_mk ⟨_, rfl, by simp⟩) (fun _ => sat_mk ⟨_, rfl, fun _ => ?_⟩))
     simp at c0; intro e; exact c0 (List.eq_nil_of_length_eq_zero e)
   · rintro ⟨q, st⟩ hq
     refine i_cond (fun _ => ?_) (fun c => sat_mk (.inr ⟨_, rfl, hq c⟩))
     refine i_any (fun z : Int × Int × BA × FV × LI => WV 100 (.mk z.1 z.2.1 z.2.2.1 z.2.2.2.1) ∧ Sc (.mk z.1 z.2.1 z.2.2.1 z.2.2.2.1) ∧ z.1 ∈ ([0, 1, 2, 4, 5] : LI)) ?_ ?_
     · refine i_call (pickI_tot _ _ (by simp) (by simp)) fun r hr => ?_
       obtain ⟨a, b⟩ := r
       refine i_call (scalar_tot a hr b) fun r hr2 => ?_
       obtain ⟨⟨⟩, l'⟩ := r
       exact sat_mk ⟨_, rfl, hr2.2.2.le (by omega), hr2.2.1, by rw [← hr2.1] at hr; exact hr⟩
     rintro ⟨b1, b2, b3, b4, b5⟩ ⟨hb1, hb2, hb3⟩
     dsimp only at hb1 hb2 hb3 ⊢
     refine i_call (fresh_tot _ _ _ _ _ _ _ _) fun r _ => ?_
     obtain ⟨s541, l542⟩ := r
     refine i_call (only_tot (s := s) (k := k) (.mk b1 b2 b3 b4) hb2 hb3) fun r hr => ?_
     obtain ⟨⟩ := r
     exact i_grdP (by simp; omega) (i_lft (sat_mk (.inl ⟨_, rfl, gl0 _ _ _ _ _ _ _ _ _ (by simp) hb1 (by omega), fin _ (by simp; omega) (all_snoc hp hr)⟩)))
 rintro o (⟨r, rfl, hr⟩ | ⟨st, rfl, hne⟩)
 · exact hr
 refine i_call (next_tot _ _ (by omega)) fun r2 hr2 => ?_
 obtain ⟨v55, l56⟩ := r2
 dsimp only at hr2 ⊢
 have h0 : 0 ≤ v55 := hr2.1
 have h1 : v55 < ps.length := by omega
 have ew : IntKind.wrap .i64 (v55 + 1) = v55 + 1 := wrap_id (by omega) (by omega)
 rw [ew]
 refine i_getL h0 h1 fun u hu _ => ?_
 obtain ⟨a57, ⟨k58, m59, lo60, hi61, p62, ps63⟩⟩ := u
 have hx : VT s k (.mk k58 m59 lo60 hi61 p62 ps63) := hp _ hu
 dsimp only
 refine i_sbind (sat_mono (R := fun o => (∃ r, o = .inl r ∧ ST s d k r) ∨ ∃ st, o = .inr st) ?_ ?_)
 · refine i_call (next_tot _ _ (by omega)) fun r _ => i_cond (fun _ => ?_) (fun _ => i_cond (fun _ => ?_) (fun _ => i_cond (fun _ => ?_) (fun _ => i_cond (fun _ => ?_) (fun _ => i_cond (fun _ => ?_) (fun _ => i_cond (fun _ => ?_) (fun _ => sat_mk (.inr ⟨_, rfl⟩)))))))
   · refine i_call (fresh_tot _ _ _ _ _ _ _ _) fun r _ => ?_
     obtain ⟨s300, l301⟩ := r
     refine i_grdP ⟨h0, h1⟩ (i_getN (by omega) fun u hu _ => ?_)
     obtain ⟨u1, ⟨⟩⟩ := u
     have hu := hp _ hu
     exact i_lft (sat_mk (.inl ⟨_, rfl, glE _ _ _ _ _ _ _ (by omega), fin _ (by simp; omega) (all_set (P := fun x : BA × Tp => VT s k x.2) hp hu)⟩))
   · refine i_any (fun z : Int × Int × BA × FV × LI => WV 100 (.mk z.1 z.2.1 z.2.2.1 z.2.2.2.1)) ?_ ?_
     · refine i_call (val_vt hs hx 0 (by omega) (by omega) n (by omega) _) fun r hr => ?_
       obtain ⟨⟨⟩, l'⟩ := r
       exact sat_mk ⟨_, rfl, hr.1.le (by omega)⟩
     rintro ⟨b1, b2, b3, b4, b5⟩ hb
     dsimp only at hb ⊢
     refine i_call (del_tot h0 (by omega) (by omega)) fun r hr => ?_
     exact i_lft (sat_mk (.inl ⟨_, rfl, gl0 _ _ _ _ _ _ _ _ _ (by simp) hb (by omega), fin _ (by have := hr.2; omega) fun x hx => hp x (hr.1 x hx)⟩))
   · refine i_call (nest_tot (d := 2 * d + 1) n (by omega) m lo hi p ps hl hp _) fun r hr => ?_
     obtain ⟨⟨op, a, b, c, e, f, g, h, ⟨⟩, pr, kk⟩, ⟨⟩, l'⟩ := r
     exact i_lft (sat_mk (.inl ⟨_, rfl, hr.1, hr.2.le (by omega)⟩))
   · refine i_call (flat_tot (d := 2 * d + 1) hs hk m lo hi p ps hl hp v55 h0 h1 _) fun r hr => ?_
     obtain ⟨⟨op, a, b, c, e, f, g, h, ⟨⟩, pr, kk⟩, ⟨⟩, q⟩ := r
     exact i_cond (fun c => i_lft (sat_mk (.inl ⟨_, rfl, (hr c).1, (hr c).2.le (by omega)⟩))) (fun _ => sat_mk (.inr ⟨_, rfl⟩))
   · refine i_call (next_tot _ _ (by omega)) fun r3 hr3 => ?_
     obtain ⟨v218, l219⟩ := r3
     dsimp only at hr3 ⊢
     refine i_any (fun z : PT => z.length ≤ 30 ∧ ∀ x, x ∈ z → VT s k x.2) ?_ ?_
     · refine i_call (del_tot h0 (by omega) (by omega)) fun r hr => i_call (ins_tot (by omega) (by have := hr.2; omega) (by have := hr.2; simp; omega)) fun r2 hr2 => sat_mk ⟨_, rfl, by have := hr.2; have := hr2.2; simp at this; omega, fun x hx => ?_⟩
       rcases hr2.1 x hx with h | h
       · obtain rfl := List.mem_singleton.1 h; exact hp _ hu
       · exact hp x (hr.1 x h)
     · rintro z ⟨hz1, hz2⟩
       exact i_lft (sat_mk (.inl ⟨_, rfl, glE _ _ _ _ _ _ _ (by omega), fin _ hz1 hz2⟩))
   · refine i_call (glue_tot (d := 2 * d + 1) hs m lo hi p ps hl hp v55 h0 h1 _) fun r hr => ?_
     obtain ⟨⟨op, a, b, c, e, f, g, h, ⟨⟩, pr, kk⟩, ⟨⟩, q⟩ := r
     exact i_cond (fun c => i_lft (sat_mk (.inl ⟨_, rfl, (hr c).1, (hr c).2.le (by omega)⟩))) (fun _ => sat_mk (.inr ⟨_, rfl⟩))
 rintro o (⟨r, rfl, hr⟩ | ⟨st, rfl⟩)
 · exact hr
 refine i_sbind (sat_mono (R := fun o => (∃ r, o = .inl r ∧ ST s d k r) ∨ o = .inr ()) ?_ ?_)
 · refine i_any (fun _ => True) ?_ ?_
   · refine i_call (mres2 s (by have := hs.length; omega) _) fun r _ => ?_
     obtain ⟨⟩ := r
     exact sat_mk ⟨_, rfl, trivial⟩
   rintro ⟨a1, a2, a3, a4, a5, a6⟩ _
   dsimp only
   refine i_any (fun _ => True) (i_cond (fun _ => i_cond (fun _ => sat_mk ⟨_, rfl, trivial⟩) (fun _ => sat_mk ⟨_, rfl, trivial⟩)) (fun _ => sat_mk ⟨_, rfl, trivial⟩)) fun q _ => i_cond (fun _ => ?_) (fun _ => sat_mk (.inr rfl))
   refine i_call (fresh_tot _ _ _ _ _ _ _ _) fun r _ => ?_
   obtain ⟨s404, l405⟩ := r
   refine i_grdP ⟨h0, h1⟩ (i_getN (by omega) fun u hu _ => ?_)
   obtain ⟨u1, ⟨⟩⟩ := u
   refine i_call (ins_tot (by omega) (by simp; omega) (by simp; omega)) fun r hr => ?_
   refine i_lft (sat_mk (.inl ⟨_, rfl, .mk _ ⟨by simp, by simp, by simp, wv0 .., by simp, fun _ p hp => by simpa using hp⟩ (by simp [kids]), fin _ (by have := hr.2; simp at this; omega) fun x hx => ?_⟩))
   rcases hr.1 x hx with h | h
   · obtain rfl := List.mem_singleton.1 h; exact .text _ _ _ _ _ tp_09
   · exact all_set (P := fun x : BA × Tp => VT s k x.2) hp (.text _ _ _ _ _ tp_ac) x h
 rintro o (⟨r, rfl, hr⟩ | rfl)
 · exact hr
 refine i_call (hself _ _ hx) fun r hr => ?_
 obtain ⟨⟨op, a, b, c, e, f, g, h, ⟨⟩, pr, kk⟩, ⟨⟩, l'⟩ := r
 refine i_grdP ⟨h0, h1⟩ (i_getN (by omega) fun u hu _ => ?_)
 obtain ⟨u1, ⟨⟩⟩ := u
 exact sat_mk ⟨glK _ _ _ _ _ _ _ _ _ (by simp) (by simp) (fun x hx => by obtain rfl := List.mem_singleton.1 hx; exact hr.1) (by omega), .record _ _ _ _ _ (by simp; omega) (all_set (P := fun x : BA × Tp => VT s (k + gg d) x.2) hpg hr.2)⟩
theorem caseL2_tot {s : PT} {d k : Nat} (hd : d ≤ 50) (self : Mk) (hself : LT s self d k) (v : Int) (ps : PT) (hl : ps.length ≤ 30) : ∀ (l : PT) (j : Nat) (qs : PT) (ns : LB) (ks : List Ln) (st : LI), (∀ x, x ∈ l → VT s k x.2) → j + l.length = ps.length → qs.length = ps.length → (∀ x, x ∈ qs → VT s (k + gg d) x.2) →
 ns.length + l.length ≤ 50 → ks.length + l.length ≤ 50 → (∀ x, x ∈ ks → GL (2 * d + 1) x) → sat (f426_L2 self ((d + 1 : Nat) : Int) s v l j qs ns ks st) fun o => ∃ st' qs' ns' ks', o = .inr (st', qs', ns', ks') ∧ qs'.length = ps.length ∧ (∀ x, x ∈ qs' → VT s (k + gg d) x.2) ∧ ns'.length ≤ 50 ∧ ks'.length ≤ 50 ∧ ∀ x, x ∈ ks' → GL (2 * d + 1) x := by
 intro l
 induction l with
 | nil => exact fun j qs ns ks st h1 h2 h3 h4 h5 h6 h7 => sat_mk ⟨_, _, _, _, rfl, h3, h4, by simpa using h5, by simpa using h6, h7⟩
 | cons x l ih =>
  intro j qs ns ks st h1 h2 h3 h4 h5 h6 h7
  obtain ⟨nm, ⟨k1, m1, lo1, hi1, p1, ps1⟩⟩ := x
  have hx := h1 _ List.mem_cons_self
  have ih' := fun j qs ns ks st => ih j qs ns ks st fun x hx => h1 x (List.mem_cons_of_mem _ hx)
  rw [List.length_cons] at h2 h5 h6
  unfold f426_L2
  rw [wrap_pred d (by omega)]
  refine i_any (fun _ => True) (i_cond (fun _ => sat_mk ⟨_, rfl, trivial⟩) (fun _ => i_call (next_tot _ _ (by omega)) fun r _ => i_cond (fun _ => sat_mk ⟨_, rfl, trivial⟩) (fun _ => sat_mk ⟨_, rfl, trivial⟩))) ?_
  rintro ⟨q, st⟩ _
  refine i_cond (fun _ => i_call (hself _ _ hx) fun r hr => ?_) (fun _ => ih' _ _ _ _ _ (by omega) h3 h4 (by omega) (by omega) h7)
  obtain ⟨⟨op, a, b, c, e, f, g, h, ⟨⟩, pr, kk⟩, ⟨⟩, l'⟩ := r
  refine i_grdP (by omega) (i_getN (by omega) fun u hu _ => ?_)
  obtain ⟨u1, ⟨⟩⟩ := u
  exact i_grdP (by simp; omega) (i_grdP (by simp; omega) (ih' _ _ _ _ _ (by omega) (by simpa using h3) (all_set (P := fun x : BA × Tp => VT s (k + gg d) x.2) h4 hr.2) (by simp; omega) (by simp; omega) (all_snoc h7 hr.1)))
theorem choice_mk {s : PT} (hs : Sch s) {d k : Nat} (hd : d ≤ 50) (hk : 3 ≤ k) (hk2 : k + gg d + 1 ≤ 80) (n : Nat) (hn : 60110 ≤ n) (self : Mk) (hself : LT s self d k) (t : Tp) (ht : VT s k t)
 (m : BA) (lo hi : Int) (p : BA) (ps : PT) (hne : ps ≠ []) (hl : ps.length ≤ 30) (hp : ∀ x, x ∈ ps → VT s k x.2) (l : LI) : sat (b426 n self t (.mk 7 m lo hi p ps) ((d + 1 : Nat) : Int) s l) (ST s d k) := by
 have hgp := gg_pos d
 have hpos := List.length_pos_iff.2 hne
 have fin : ∀ (qs : PT), qs ≠ [] → qs.length ≤ 30 → (∀ x, x ∈ qs → VT s (k + gg d) x.2) → VT s (k + gg d + 1) (.mk 7 m lo hi p qs) := fun qs h0 h1 h2 => .choice _ _ _ _ _ h0 h1 h2
 obtain ⟨k1, m1, lo1, hi1, p1, ps1⟩ := t
 unfold b426
 dsimp only
 refine i_call (clone_tot _ _ _ _ _ _ (by omega)) fun r hr => ?_
 subst hr
 dsimp only
 refine i_call (next_tot _ _ (by omega)) fun r hr => ?_
 obtain ⟨v23, l24⟩ := r
 dsimp only at hr ⊢
 have h0 : 0 ≤ v23 := hr.1
 have h1 : v23 < ps.length := by omega
 refine i_sbind (sat_mono (R := fun o => (∃ r, o = .inl r ∧ ST s d k r) ∨ ∃ st, o = .inr st) ?_ ?_)
 · refine i_call (next_tot _ _ (by omega)) fun r _ => ?_
   obtain ⟨v25, l26⟩ := r
   refine i_cond (fun _ => ?_) (fun _ => i_any (fun q : Bool => q = true → ps.length = 1) (i_cond (fun _ => i_cond (fun c => sat_mk ⟨_, rfl, fun _ => by simp at c; omega⟩) (fun _ => sat_mk ⟨_, rfl, by simp⟩)) (fun _ => sat_mk ⟨_, rfl, by simp⟩)) fun q hq => i_cond (fun c => ?_) (fun _ => ?_))
   · refine i_call (fresh_tot _ _ _ _ _ _ _ _) fun r _ => ?_
     obtain ⟨s1117, l1118⟩ := r
     refine i_grdP ⟨h0, h1⟩ (i_getN (by omega) fun u hu _ => ?_)
     obtain ⟨u1, ⟨⟩⟩ := u
     refine i_getL h0 h1 fun w hw _ => ?_
     obtain ⟨w1, ⟨⟩⟩ := w
     have hu := (hp _ hu).le (show k ≤ k + gg d by omega)
     exact i_lft (sat_mk (.inl ⟨_, rfl, glE _ _ _ _ _ _ _ (by omega), fin _ (fun e => hne (by simpa using e)) (by simp; omega) (all_set (P := fun x : BA × Tp => VT s (k + gg d) x.2) (fun x hx => (hp x hx).le (by omega)) hu)⟩))
   · have c1 := hq c
     refine i_getL (by omega) (by omega) fun u hu _ => ?_
     obtain ⟨u1, ⟨⟩⟩ := u
     refine i_getL (by omega) (by omega) fun w hw _ => ?_
     obtain ⟨w1, ⟨⟩⟩ := w
     exact i_lft (sat_mk (.inl ⟨_, rfl, glE _ _ _ _ _ _ _ (by omega), (hp _ hw).le (by omega)⟩))
   · refine i_any (fun q : Bool => q = true → ps.length = 2) ?_ ?_
     · refine i_cond (fun _ => i_cond (fun c => ?_) (fun _ => sat_mk ⟨_, rfl, by simp⟩)) (fun _ => sat_mk ⟨_, rfl, by simp⟩)
       have c2 : ps.length = 2 := by simp at c; omega
       refine i_getL (by omega) (by omega) fun u _ _ => ?_
       obtain ⟨u1, ⟨⟩⟩ := u
       refine i_cond (fun _ => i_getL (by omega) (by omega) fun u _ _ => ?_) (fun _ => sat_mk ⟨_, rfl, by simp⟩)
       obtain ⟨u1, ⟨⟩⟩ := u
       refine i_cond (fun _ => i_getL (by omega) (by omega) fun u _ _ => ?_) (fun _ => sat_mk ⟨_, rfl, by simp⟩)
       obtain ⟨u1, ⟨⟩⟩ := u
       refine i_call (mres2 s (by have := hs.length; omega) _) fun r _ => ?_
       obtain ⟨⟩ := r
       exact i_cond (fun _ => sat_mk ⟨_, rfl, fun _ => c2⟩) (fun _ => sat_mk ⟨_, rfl, by simp⟩)
     intro q hq
     refine i_cond (fun c => ?_) (fun _ => sat_mk (.inr ⟨_, rfl⟩))
     have c2 := hq c
     refine i_getL (by omega) (by omega) fun u hu hu1 => ?_
     obtain ⟨u1, ⟨⟩⟩ := u
     refine i_getL (by omega) (by omega) fun w hw hw1 => ?_
     obtain ⟨w1, ⟨⟩⟩ := w
     refine i_call (val_vt hs (hp _ hu) 0 (by omega) (by omega) n (by omega) _) fun r hr => ?_
     obtain ⟨⟨⟩, l'⟩ := r
     exact i_lft (sat_mk (.inl ⟨_, rfl, gl0 _ _ _ _ _ _ _ _ _ (by simp) (hr.1.le (by omega)) (by omega), (hp _ hw).le (by omega)⟩))
 rintro o (⟨r, rfl, hr⟩ | ⟨st, rfl⟩)
 · exact hr
 refine i_sbind (sat_mono (caseL2_tot hd self hself _ ps hl ps 0 ps [] [] _ hp (by simp) rfl (fun x hx => (hp x hx).le (by omega)) (by simp; omega) (by simp; omega) (by simp)) ?_)
 rintro o ⟨st', qs', ns', ks', rfl, g1, g2, g3, g4, g5⟩
 dsimp only
 exact sat_mk ⟨glK _ _ _ _ _ _ _ _ _ (by omega) (by omega) g5 (by omega), fin _ (by intro e; rw [e] at g1; exact hne (List.eq_nil_of_length_eq_zero g1.symm)) (by omega) g2⟩
end Go.Clap
