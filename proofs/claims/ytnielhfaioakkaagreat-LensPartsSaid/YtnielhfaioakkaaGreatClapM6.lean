/- The checks of the small code against the loaded functions. -/
import Derived.Test.YtnielhfaioakkaaGreatClapM5
set_option linter.unusedVariables false
set_option linter.unusedSimpArgs false
set_option maxRecDepth 100000
namespace Go.Clap
theorem res_k {s : PT} (hs : Sch s) {k : Nat} {t : Tp} (h : VT s k t) : sat (f63 s t) fun r => VT s (k + 3) r :=
 sat_mono (mres_vt hs (by omega) (h.le (by omega : k ≤ k + 3))) fun r hr => hr.1
theorem VT.pat {s : PT} {k : Nat} {m p : BA} {lo hi : Int} {ps : PT} (h : VT s k (.mk 5 m lo hi p ps)) : TP p := by
 cases h with
 | num _ _ _ _ _ _ hk => omega
 | text _ _ _ _ _ h => exact h
theorem VT.parts {s : PT} {k : Nat} {m p : BA} {lo hi : Int} {ps : PT} (h : VT s (k + 1) (.mk 6 m lo hi p ps)) : ps.length ≤ 30 ∧ ∀ x, x ∈ ps → VT s k x.2 := by
 cases h with
 | num _ _ _ _ _ _ hk => omega
 | record _ _ _ _ _ h1 h => exact ⟨h1, h⟩
theorem VT.parts2 {s : PT} {k : Nat} {m p : BA} {lo hi : Int} {ps : PT} (h : VT s k (.mk 6 m lo hi p ps)) : ps.length ≤ 30 ∧ ∀ x, x ∈ ps → VT s k x.2 := by
 obtain ⟨h1, h2⟩ := h.succ.parts
 exact ⟨h1, h2⟩
theorem clone_tot (k : Int) (m : BA) (lo hi : Int) (p : BA) (ps : PT) (h : ps.length ≤ 1000) : sat (f438 (.mk k m lo hi p ps)) fun r => r = .mk k m lo hi p ps := by
 rw [clone_eq _ (by rintro _ _ _ _ _ _ ⟨⟩; exact h)]; exact sat_mk rfl
theorem glue_bytes (b : BA) : (((((⟨#[40]⟩ : BA) ++ ⟨#[91, 97, 45, 99, 93, 42]⟩) ++ (⟨#[41, 45, 40]⟩ : BA)) ++ b) ++ (⟨#[41]⟩ : BA)).data.toList = [40] ++ pAc ++ [41] ++ ([45] ++ ([40] ++ b.data.toList ++ [41])) := by
 simp only [toList_append]
 simp [pAc]
theorem toList_eq_of {a b : ByteArray} (h : (a.toList == b.toList) = true) : a = b := by
 have h1 := beq_iff_eq.1 h
 rw [Lib.toList_data, Lib.toList_data] at h1
 exact ByteArray.ext (Array.toList_inj.mp h1)
theorem glue_tot {s : PT} (hs : Sch s) {d k : Nat} (m : BA) (lo hi : Int) (p : BA) (ps : PT) (hl : ps.length ≤ 30) (hp : ∀ x, x ∈ ps → VT s k x.2) (v7 : Int) (h0 : 0 ≤ v7) (h1 : v7 < ps.length) (l9 : LI) :
 sat (f447 (.mk 6 m lo hi p ps) v7 s l9) fun r => r.2.2 = true → GL (d + 1) r.1 ∧ VT s (k + 1) r.2.1 := by
 have ew : IntKind.wrap .i64 (v7 + 1) = v7 + 1 := wrap_id (by omega) (by omega)
 have ew2 : IntKind.wrap .i64 (v7 + 2) = v7 + 2 := wrap_id (by omega) (by omega)
 unfold f447
 dsimp only
 rw [ew, ew2]
 refine i_cond (fun _ => sat_mk (by simp)) (fun c => ?_)
 have hlt : v7 + 1 < ps.length := by simpa using c
 refine i_any (fun x : Int × BA × Int × Int × BA × PT × Int × BA × Int × Int × BA × PT => x.2.2.2.2.2.2.1 = 5 → TP x.2.2.2.2.2.2.2.2.2.2.1) ?_ ?_
 · refine i_getL h0 h1 fun u hu _ => ?_
   obtain ⟨a, ⟨k1, m1, lo1, hi1, p1, ps1⟩⟩ := u
   refine i_getL (by omega) hlt fun u hu2 _ => ?_
   obtain ⟨a2, ⟨k2, m2, lo2, hi2, p2, ps2⟩⟩ := u
   refine i_call (res_k hs (hp _ hu)) fun r _ => ?_
   obtain ⟨⟩ := r
   refine i_call (res_k hs (hp _ hu2)) fun r hr => ?_
   obtain ⟨⟩ := r
   exact sat_mk ⟨_, rfl, fun h => by dsimp only at h; subst h; exact hr.pat⟩
 rintro ⟨a1, a2, a3, a4, a5, a6, b1, b2, b3, b4, b5, b6⟩ hb
 dsimp only at hb ⊢
 refine i_cond (fun _ => sat_mk (by simp)) (fun c1 => i_cond (fun _ => sat_mk (by simp)) (fun c2 => i_cond (fun _ => sat_mk (by simp)) (fun c3 => i_cond (fun _ => sat_mk (by simp)) (fun c4 => ?_))))
 have h5 : b1 = 5 := by simpa using c2
 have hsz : b5.size ≤ 30 := by simp at c4; omega
 obtain rfl : a5 = ⟨#[91, 97, 45, 99, 93, 42]⟩ := toList_eq_of (by simpa using c3)
 refine i_call (clone_tot _ _ _ _ _ _ (by omega)) fun r hr => ?_
 subst hr
 dsimp only
 have e1 : (⟨#[40]⟩ : BA).size = 1 := rfl
 have e2 : (⟨#[41, 45, 40]⟩ : BA).size = 3 := rfl
 have e3 : (⟨#[41]⟩ : BA).size = 1 := rfl
 have e4 : (⟨#[91, 97, 45, 99, 93, 42]⟩ : BA).size = 6 := rfl
 refine i_grdP (by omega) (i_grdP (by simp only [ByteArray.size_append]; omega) (i_grdP (by simp only [ByteArray.size_append]; omega) (i_grdP (by simp only [ByteArray.size_append]; omega) (i_grdP ⟨h0, h1⟩ (i_getN (by omega) fun u _ _ => ?_)))))
 obtain ⟨a, ⟨k1, m1, lo1, hi1, p1, ps1⟩⟩ := u
 refine i_call (del_tot (by omega) (by omega) (by simp; omega)) fun r hr => ?_
 refine i_getL h0 h1 fun u hu _ => ?_
 obtain ⟨x1, ⟨k1, m1, lo1, hi1, p1, ps1⟩⟩ := u
 refine i_getL (by omega) hlt fun u hu2 _ => ?_
 obtain ⟨x2, ⟨k2, m2, lo2, hi2, p2, ps2⟩⟩ := u
 refine sat_mk fun _ => ⟨glE _ _ _ _ _ _ _ (by omega), .record _ _ _ _ _ ?_ fun x hx => ?_⟩
 · have := hr.2; simp at this; omega
 · exact all_set (P := fun x => VT s k x.2) hp (.text _ _ _ _ _ (tp_glue (hb h5) hsz (glue_bytes b5))) x (hr.1 x hx)
theorem flat_tot {s : PT} (hs : Sch s) {d k : Nat} (hk : 3 ≤ k) (m : BA) (lo hi : Int) (p : BA) (ps : PT) (hl : ps.length ≤ 30) (hp : ∀ x, x ∈ ps → VT s k x.2) (v7 : Int) (h0 : 0 ≤ v7) (h1 : v7 < ps.length) (l9 : LI) :
 sat (f445 (.mk 6 m lo hi p ps) v7 s l9) fun r => r.2.2 = true → GL (d + 1) r.1 ∧ VT s (k + 1) r.2.1 := by
 have hL : ∀ (l : PT) (j : Nat), sat (f445_L2 6 m lo hi p ps v7 l j) fun o => o = .inr () ∨ ∃ r, o = .inl r ∧ r.2.2 = false := by
  intro l
  induction l with
  | nil => exact fun j => sat_mk (.inl rfl)
  | cons x l ih =>
   intro j
   obtain ⟨a, ⟨k1, m1, lo1, hi1, p1, ps1⟩⟩ := x
   exact i_call (index_tot _ _ _ _ _ _ _) fun i _ => i_cond (fun _ => i_cond (fun _ => i_lft (sat_mk (.inr ⟨_, rfl, rfl⟩))) (fun _ => ih _)) (fun _ => ih _)
 unfold f445
 dsimp only
 refine i_any (fun x : Int × BA × Int × Int × BA × PT => x.1 = 6 → x.2.2.2.2.2.length ≤ 30 ∧ ∀ y, y ∈ x.2.2.2.2.2 → VT s k y.2) ?_ ?_
 · refine i_getL h0 h1 fun u hu _ => ?_
   obtain ⟨a, ⟨k1, m1, lo1, hi1, p1, ps1⟩⟩ := u
   refine i_call (mres_vt hs hk (hp _ hu)) fun r hr => ?_
   obtain ⟨⟩ := r
   exact sat_mk ⟨_, rfl, fun h => by dsimp only at h; subst h; exact hr.1.parts2⟩
 rintro ⟨a1, a2, a3, a4, a5, a6⟩ hb
 dsimp only at hb ⊢
 refine i_cond (fun _ => sat_mk (by simp)) (fun c1 => i_cond (fun _ => sat_mk (by simp)) (fun c2 => i_sbind (sat_mono (hL _ _) ?_)))
 rintro o (rfl | ⟨r, rfl, hr⟩)
 case inr => intro h; rw [hr] at h; cases h
 have h6 : a1 = 6 := by simpa using c1
 have hlen : ps.length + a6.length ≤ 24 := by
  have h30 := (hb h6).1
  have := of_decide_eq_false c2
  rw [wrap_id (by omega) (by omega)] at this; omega
 refine i_call (clone_tot _ _ _ _ _ _ (by omega)) fun r hr => ?_
 subst hr
 dsimp only
 have ew : IntKind.wrap .i64 (v7 + 1) = v7 + 1 := wrap_id (by omega) (by omega)
 rw [ew]
 refine i_call (del_tot h0 (by omega) (by omega)) fun r hr => i_call (ins_tot h0 (by have := hr.2; omega) (by have := hr.2; omega)) fun r2 hr2 => ?_
 refine i_getL h0 h1 fun u hu _ => ?_
 obtain ⟨x1, ⟨k1, m1, lo1, hi1, p1, ps1⟩⟩ := u
 refine sat_mk fun _ => ⟨glE _ _ _ _ _ _ _ (by omega), .record _ _ _ _ _ ?_ fun x hx => ?_⟩
 · have := hr.2; have := hr2.2; omega
 · rcases hr2.1 x hx with h | h
   · exact (hb h6).2 x h
   · exact hp x (hr.1 x h)
end Go.Clap
