/- The checks of the small code against the loaded functions. -/
import Derived.Test.YtnielhfaioakkaaGreatClapZ3
import Derived.Test.YtnielhfaioakkaaGreatClapM3
set_option linter.unusedVariables false
set_option linter.unusedSimpArgs false
set_option maxRecDepth 100000
namespace Go.Clap
theorem i_any {τ ο : Type} {m : Option (Sum τ ο)} {K : ο → Option τ} {R : τ → Prop} (P : ο → Prop) (h : sat m fun o => ∃ x, o = .inr x ∧ P x) (k : ∀ x, P x → sat (K x) R) : sat (sbind m K) R := by
 obtain ⟨_, rfl, x, rfl, hx⟩ := h
 exact k x hx
theorem beq_l {a b : ByteArray} (h : a = b) : (a.toList == b.toList) = true := by subst h; exact beq_self_eq_true _
theorem toList_ne_of {a b : ByteArray} (h : (a.toList == b.toList) = false) : a ≠ b := fun e => by rw [beq_l e] at h; cases h
theorem clone_eq (t : Tp) (h : ∀ k m lo hi p ps, t = .mk k m lo hi p ps → ps.length ≤ 1000) : f438 t = some t := by
 obtain ⟨k, m, lo, hi, p, ps⟩ := t
 unfold f438 f108 grdP
 dsimp only
 rw [if_pos (by have := h _ _ _ _ _ _ rfl; omega)]
 rfl
theorem index_tot (k : Int) (m : ByteArray) (lo hi : Int) (p : ByteArray) (ps : PT) (nm : ByteArray) :
 sat (f455 (.mk k m lo hi p ps) nm) fun i => i < ps.length ∧ ((∃ x, x ∈ ps ∧ x.1 = nm) → 0 ≤ i) := by
 have hL : ∀ (l : PT) (j : Nat), sat (f175a_L2 nm l j) fun o => (∃ i : Int, o = .inl i ∧ 0 ≤ i ∧ i < j + l.length) ∨ (o = .inr () ∧ ¬ ∃ x, x ∈ l ∧ x.1 = nm) := by
  intro l
  induction l with
  | nil => exact fun j => sat_mk (.inr ⟨rfl, by simp⟩)
  | cons x l ih =>
   intro j
   obtain ⟨a, ⟨k1, m1, lo1, hi1, p1, ps1⟩⟩ := x
   refine i_call (Q := fun q => (q = false → a ≠ nm)) ?_ fun q hq => i_cond (fun _ => i_lft (sat_mk (.inl ⟨_, rfl, by omega, by simp; omega⟩))) (fun hf => sat_mono (ih (j + 1)) ?_)
   · unfold f465
     exact i_cond (fun _ => sat_mk (by simp)) (fun h => sat_mk fun _ => toList_ne_of h)
   · rintro o (⟨i, rfl, h0, h1⟩ | ⟨rfl, h⟩)
     · exact .inl ⟨i, rfl, h0, by simp; omega⟩
     · refine .inr ⟨rfl, ?_⟩
       rintro ⟨x, hx, hn⟩
       rcases List.mem_cons.1 hx with rfl | hx
       · exact hq hf hn
       · exact h ⟨x, hx, hn⟩
 unfold f455 f175a
 dsimp only
 refine i_call (Q := fun i : Int => i < ps.length ∧ ((∃ x, x ∈ ps ∧ x.1 = nm) → 0 ≤ i)) ?_ fun r hr => ?_
 · refine i_sbind (sat_mono (hL ps 0) ?_)
   rintro o (⟨i, rfl, h0, h1⟩ | ⟨rfl, h⟩)
   · exact ⟨by omega, fun _ => h0⟩
   · exact sat_mk ⟨by omega, fun h' => absurd h' h⟩
 · exact sat_mk hr
theorem fresh_tot (k : Int) (m : ByteArray) (lo hi : Int) (p : ByteArray) (ps : PT) (s : PT) (l : LI) : sat (f440 (.mk k m lo hi p ps) s l) fun _ => True := by
 have hL : ∀ (v9 : Int) (l10 : LI) (g : Nat) (v : Int), sat (f440_L2 k m lo hi p ps v9 l10 g v) fun _ => True := by
  intro v9 l10 g
  induction g with
  | zero => exact fun v => sat_mk trivial
  | succ g ih =>
   intro v
   refine i_grdP ?_ (i_call (index_tot k m lo hi p ps _) fun i _ => i_cond (fun _ => i_lft (sat_mk trivial)) (fun _ => ih _))
   rw [strOfNums_size]; show ((1 + 1 : Nat) : Int) ≤ _; omega
 unfold f440
 dsimp only
 refine i_call (next_tot _ _ (by omega)) fun r _ => ?_
 obtain ⟨v9, l10⟩ := r
 refine i_sbind (i_grdP (by omega) (sat_mono (hL v9 l10 _ _) ?_))
 rintro (o | o) _
 · trivial
 · exact sat_mk trivial
theorem scalar_tot (k : Int) (hk : k ∈ ([0, 1, 2, 4, 5] : LI)) (l : LI) : sat (f64 k l) fun r => kindV r.1 = k ∧ Sc r.1 ∧ WV 1 r.1 := by
 have hw : ∀ (n : Int) (s : ByteArray), WV 1 (.mk k n s []) := fun n s => .mk _ _ _ _ (by simp) (by simp)
 have e : (⟨#[]⟩ : ByteArray).size = 0 := rfl
 unfold f64
 refine i_cond (fun c => i_call (next_tot _ _ (by omega)) fun r hr => sat_mk ⟨rfl, ⟨by omega, by omega⟩, hw _ _⟩) (fun c1 => ?_)
 refine i_cond (fun c => i_call (pickI_tot _ _ (by simp) (by simp)) fun r hr => ?_) (fun c2 => ?_)
 · simp only [List.mem_cons, List.not_mem_nil, or_false] at hr
   exact sat_mk ⟨rfl, ⟨by omega, by omega⟩, hw _ _⟩
 refine i_cond (fun c => ?_) (fun c3 => ?_)
 · simp only [List.mem_cons, List.not_mem_nil, or_false] at hk
   have : k = 3 := by simpa using c
   omega
 refine i_cond (fun c => i_call (next_tot _ _ (by omega)) fun r hr => sat_mk ⟨rfl, ⟨by omega, fun _ => ?_⟩, hw _ _⟩) (fun c4 => ?_)
 · rw [wrap_id (by omega) (by omega)]; omega
 refine i_cond (fun c => i_call (pickS_tot _ _ (by simp) (by simp)) fun r hr => ?_) (fun c5 => ?_)
 · obtain ⟨s, l'⟩ := r
   simp only [List.mem_cons, List.not_mem_nil, or_false] at hr
   refine sat_mk ⟨rfl, ⟨fun _ => ?_, by simp at c; omega⟩, hw _ _⟩
   rcases hr with rfl | rfl | rfl | rfl | rfl | rfl | rfl | rfl <;> exact Nat.le_of_ble_eq_true rfl
 refine i_cond (fun c => i_call (next_tot _ _ (by omega)) fun r hr => sat_mk ⟨rfl, ⟨by omega, by simp at c; omega⟩, hw _ _⟩) (fun _ => sat_mk ⟨rfl, ⟨by omega, by simp at c1 c2 c4; omega⟩, hw _ _⟩)
theorem PS.append {I : U8 → Nat → Prop} {x y : U8} {w v : Nat} (h : PS I x w) (k : PS I y v) : PS I (x ++ y) (w + v) := by
 induction h with
 | nil => rw [Nat.zero_add]; exact k
 | cons h _ ih => rw [List.append_assoc, Nat.add_assoc]; exact .cons h ih
 | star h0 h _ ih => rw [List.append_assoc, Nat.add_assoc]; exact .star h0 h ih
theorem contains_plain (c : UInt8) : sat (f466 [124, 42, 43, 63, 40, 41, 91, 93, 46, 92] (c.toNat : Int)) fun q => q = false → plainB c = true := by
 have hL : ∀ (v : Int) (l : LI) (j : Nat), sat (f479_L2 v l j) fun o => (∃ i : Int, o = .inl i ∧ 0 ≤ i) ∨ (o = .inr () ∧ ∀ x, x ∈ l → v ≠ x) := by
  intro v l
  induction l with
  | nil => exact fun j => sat_mk (.inr ⟨rfl, by simp⟩)
  | cons x l ih =>
   intro j
   refine i_cond (fun _ => i_lft (sat_mk (.inl ⟨_, rfl, by omega⟩))) (fun hf => sat_mono (ih (j + 1)) ?_)
   rintro o (⟨i, rfl, h0⟩ | ⟨rfl, h⟩)
   · exact .inl ⟨i, rfl, h0⟩
   · refine .inr ⟨rfl, fun y hy => ?_⟩
     rcases List.mem_cons.1 hy with rfl | hy
     · simpa using hf
     · exact h y hy
 unfold f466 f479
 dsimp only
 refine i_call (Q := fun i : Int => 0 ≤ i ∨ plainB c = true) (i_sbind (sat_mono (hL _ _ 0) ?_)) fun i hi => i_cond (fun _ => sat_mk (by simp)) (fun h => sat_mk fun _ => ?_)
 · rintro o (⟨i, rfl, h0⟩ | ⟨rfl, h⟩)
   · exact .inl h0
   · refine sat_mk (.inr ?_)
     unfold plainB
     rw [Bool.not_eq_true', ← Bool.not_eq_true]
     intro hc
     have := List.contains_iff_mem.1 hc
     simp only [List.mem_cons, List.not_mem_nil, or_false] at this
     rcases this with rfl | rfl | rfl | rfl | rfl | rfl | rfl | rfl | rfl | rfl
     · exact h 124 (by simp) rfl
     · exact h 42 (by simp) rfl
     · exact h 43 (by simp) rfl
     · exact h 63 (by simp) rfl
     · exact h 40 (by simp) rfl
     · exact h 41 (by simp) rfl
     · exact h 91 (by simp) rfl
     · exact h 93 (by simp) rfl
     · exact h 46 (by simp) rfl
     · exact h 92 (by simp) rfl
 · rcases hi with hi | hi
   · simp at h; omega
   · exact hi
theorem ofNums_map (x : U8) : strOfNums (x.map fun c => (c.toNat : Int)) = ⟨x.toArray⟩ := by
 unfold strOfNums
 rw [List.map_map]
 have : ((fun n : Int => UInt8.ofNat n.toNat) ∘ fun c : UInt8 => (c.toNat : Int)) = id := by
  funext c; simp
 rw [this, List.map_id]
theorem quote_tot (s : ByteArray) (hs : s.size ≤ 40) : sat (f456 s) TP := by
 have hL : ∀ (g : Nat) (v : Nat) (x : U8), v + g = s.size → PS (PI 0) x v → x.length ≤ 2 * v →
  sat (f456_L2 s g (v : Int) (x.map fun c => (c.toNat : Int))) fun o => ∃ y : U8, o = .inr (y.map fun c => (c.toNat : Int)) ∧ PS (PI 0) y s.size ∧ y.length ≤ 2 * s.size := by
  intro g
  induction g with
  | zero => intro v x hv h hl; obtain rfl : v = s.size := by omega
            exact sat_mk ⟨x, rfl, h, hl⟩
  | succ g ih =>
   intro v x hv h hl
   have hlt : v < s.size := by omega
   obtain ⟨c, hc⟩ : ∃ c, s.data[v]? = some c := ⟨_, Array.getElem?_eq_getElem (by exact hlt)⟩
   have hx1 : (x.map fun c => (c.toNat : Int)) ++ [(c.toNat : Int)] = (x ++ [c]).map fun c => (c.toNat : Int) := by simp
   have hx2 : ((x.map fun c => (c.toNat : Int)) ++ [92]) ++ [(c.toNat : Int)] = (x ++ [92, c]).map fun c => (c.toNat : Int) := by simp
   refine j_getB hc (i_call (contains_plain c) fun q hq => i_cond (fun _ => i_grdP (by simp; omega) (j_getB hc (i_grdP (by simp; omega) ?_))) (fun hf => j_getB hc (i_grdP (by simp; omega) ?_)))
   · rw [hx2]
     exact ih (v + 1) _ (by omega) (h.append (PS.i (.esc c))) (by simp; omega)
   · rw [hx1]
     exact ih (v + 1) _ (by omega) (h.append (PS.i (.chr c (hq hf)))) (by simp; omega)
 unfold f456
 refine i_sbind (i_grdP (by omega) (sat_mono (hL ((s.size : Int) - 0).toNat 0 [] (by omega) .nil (by simp)) ?_))
 rintro o ⟨y, rfl, h, hl⟩
 refine sat_mk ?_
 rw [ofNums_map]
 refine ⟨?_, 0, s.size, by omega, hs, .one h⟩
 show y.length ≤ 100
 omega
theorem only_tot {s : PT} {k : Nat} (c : V) (h : Sc c) (hk : kindV c ∈ ([0, 1, 2, 4, 5] : LI)) : sat (f441 c) (VT s k) := by
 obtain ⟨kd, n, x, fs⟩ := c
 simp only [kindV, List.mem_cons, List.not_mem_nil, or_false] at hk
 unfold f441
 refine i_cond (fun c => sat_mk (.unit _ _ _ _ _)) (fun c0 => i_cond (fun c => ?_) (fun c5 => sat_mk ?_))
 · exact i_call (quote_tot x (h.1 (by simpa using c))) fun p hp => sat_mk (.text _ _ _ _ _ hp)
 · have hk : kd = 1 ∨ kd = 2 ∨ kd = 4 := by simp at c0 c5; omega
   exact .num _ _ _ _ _ _ hk (h.2 hk).1 (Int.le_refl _) (h.2 hk).2
end Go.Clap
