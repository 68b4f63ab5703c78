/- The checks of the small code against the loaded functions. -/
import Derived.Test.YtnjgakngmbbmfaaGreatDoorClapA3
import Derived.Test.YtnjgakngmbbmfaaGreatDoorClapL0
set_option linter.unusedVariables false
set_option linter.unusedSimpArgs false
set_option maxRecDepth 100000
set_option maxHeartbeats 4000000
namespace Go.Clap
open Go.IntKind (wrap)
theorem wu8 {x : Int} (h0 : 0 ≤ x) (h1 : x ≤ 255) : wrap .u8 x = x := by rw [IntKind.wrap_u8]; omega
theorem i_caseI {γ : Type} {a : Int} {l : List (Option γ)} {R : γ → Prop} (h0 : 0 ≤ a) (h1 : a < l.length) (h : ∀ m ∈ l, sat m R) : sat (caseI a l) R := by
 unfold caseI
 rw [if_pos h0, List.getElem?_eq_getElem (by omega)]
 exact h _ (List.getElem_mem (by omega))
theorem i_getB {β : Type} {s : BA} {i : Int} {f : UInt8 → Option β} {R : β → Prop} (h0 : 0 ≤ i) (h1 : i < s.size) (h : ∀ u, sat (f u) R) : sat (getB s i f) R := by
 unfold getB
 have : i.toNat < s.data.size := by have : s.size = s.data.size := rfl; omega
 rw [if_pos h0, Array.getElem?_eq_getElem this]
 exact h _
theorem d64 {i : Int} (h0 : 0 ≤ i) (h1 : i < 256) : 0 ≤ Int.tdiv i 64 ∧ Int.tdiv i 64 < 4 ∧ 0 ≤ Int.tmod i 64 := by
 obtain ⟨n, rfl⟩ : ∃ n : Nat, i = n := ⟨i.toNat, by omega⟩
 have e1 : Int.tdiv (n : Int) 64 = ((n / 64 : Nat) : Int) := rfl
 have e2 : Int.tmod (n : Int) 64 = ((n % 64 : Nat) : Int) := rfl
 rw [e1, e2]
 omega
theorem four {γ : Type} {k : IntKind} {i : Int} {A B C D : Option γ} {R : γ → Prop} (hk : k = .i64 ∨ k = .u8) (h0 : 0 ≤ i) (h1 : i < 256) (hA : sat A R) (hB : sat B R) (hC : sat C R) (hD : sat D R) : sat (caseI (wrap k (Int.tdiv i 64)) [A, B, C, D]) R := by
 obtain ⟨d0, d1, _⟩ := d64 h0 h1
 have e : wrap k (Int.tdiv i 64) = Int.tdiv i 64 := by
  rcases hk with rfl | rfl
  · exact wrap_id (by omega) (by omega)
  · exact wu8 d0 (by omega)
 rw [e]
 refine i_caseI d0 (by simpa using d1) fun m hm => ?_
 simp only [List.mem_cons, List.not_mem_nil, or_false] at hm
 rcases hm with rfl | rfl | rfl | rfl
 · exact hA
 · exact hB
 · exact hC
 · exact hD
theorem any {α : Type} (x : α) : sat (some x) fun _ => True := ⟨x, rfl, trivial⟩
def OkS (s : BA) (i : Int) (r f : L4) : Prop := 0 ≤ i ∧ i ≤ s.size ∧ s.size ≤ 200 ∧ r.length = f.length ∧ 1 ≤ r.length ∧ r.length ≤ 256
theorem more_t {s : BA} {i : Int} {q3 : Bool} {a b c d e f g h : Int} {q : Bool} {r t : L4} {R : Bool × L4 × L4 × Bool → Prop}
 (h1 : q = false → i < s.size → R (true, r, t, false)) (h2 : R (false, r, t, q)) : sat (f156b_more s i q3 a b c d e f g h q r t) R := by
 unfold f156b_more
 cases q
 · exact i_cond (fun h => by cases h) fun _ => i_cond (fun h => sat_mk (h1 rfl (of_decide_eq_true h))) fun _ => sat_mk h2
 · exact sat_mk h2
theorem peek_t {s : BA} {i : Int} {q3 : Bool} {a b c d e f g h : Int} {q : Bool} {r t : L4} {R : Int × L4 × L4 → Prop} (h0 : 0 ≤ i)
 (h1 : ∀ v, 0 ≤ v → v ≤ 255 → R (v, r, t)) : sat (f157b_peek s i q3 a b c d e f g h q r t) R := by
 unfold f157b_peek
 refine i_cond (fun _ => sat_mk (h1 0 (by decide) (by decide))) fun hh => ?_
 have hh : ¬ i ≥ (s.size : Int) := of_decide_eq_false hh
 refine i_getB h0 (by omega) fun u => sat_mk (h1 _ (by omega) ?_)
 have := u.toNat_lt
 omega
theorem add_t {v a b c d : Int} (h0 : 0 ≤ v) (h1 : v < 256) : sat (f178_add v a b c d) fun _ => True := by
 unfold f178_add
 have h := (d64 h0 h1).2.2
 exact four (.inr rfl) h0 h1 (i_grdP h (any _)) (i_grdP h (any _)) (i_grdP h (any _)) (i_grdP h (any _))
theorem adda_t {v : Int} {q : Bool} {a b c d e f g h : Int} (h0 : 0 ≤ v) (h1 : v < 256) : sat (f110_add v q a b c d e f g h) fun _ => True := by
 unfold f110_add
 have h := (d64 h0 h1).2.2
 exact four (.inl rfl) h0 h1 (i_grdP h (any _)) (i_grdP h (any _)) (i_grdP h (any _)) (i_grdP h (any _))
theorem addb_t {v : Int} {q : Bool} {a b c d e f g h : Int} (h0 : 0 ≤ v) (h1 : v < 256) : sat (f110a_add v q a b c d e f g h) fun _ => True := by
 unfold f110a_add
 have h := (d64 h0 h1).2.2
 exact four (.inl rfl) h0 h1 (i_grdP h (any _)) (i_grdP h (any _)) (i_grdP h (any _)) (i_grdP h (any _))
abbrev R12 := Bool × Int × Int × Int × Int × Int × Int × Int × Int × L4 × L4 × Bool
abbrev R13 := Bool × Int × Int × Int × Int × Int × Int × Int × Int × Int × L4 × L4 × Bool
def P12 (n : Nat) : R12 → Prop := fun (_, _, _, _, _, _, _, _, _, r, f, _) => r.length = f.length ∧ n ≤ r.length ∧ r.length ≤ 256
def P13 (s : BA) (i : Int) (n : Nat) : R13 → Prop := fun (_, _, _, _, _, _, _, _, _, j, r, f, _) => i ≤ j ∧ OkS s j r f ∧ n ≤ r.length
theorem position_t {w : N4} {s : BA} {i : Int} {q3 : Bool} {a b c d e f g h : Int} {q : Bool} {r t : L4} (hl : r.length = t.length) (h1 : r.length ≤ 256) :
 sat (f179_position w s i q3 a b c d e f g h q r t) (P12 r.length) := by
 obtain ⟨w1, w2, w3, w4⟩ := w
 unfold f179_position
 refine i_cond (fun _ => sat_mk ⟨hl, Nat.le_refl _, h1⟩) fun hh => ?_
 have hh : ¬ ((r.length : Int) > 255) := of_decide_eq_false hh
 refine i_grdP (by simp; omega) (i_grdP (by simp; omega) ?_)
 refine i_call (adda_t (by omega) (by omega)) fun ⟨x1, x2, x3, x4⟩ _ => ?_
 refine i_call (addb_t (by omega) (by omega)) fun ⟨y1, y2, y3, y4⟩ _ => ?_
 refine sat_mk ⟨by simp; omega, by simp, by simp; omega⟩
theorem single_t {s : BA} {i : Int} {q3 : Bool} {a b c d e f g h : Int} {q : Bool} {r t : L4} (h0 : 0 ≤ i) (h1 : i ≤ s.size) (hs : s.size ≤ 200) :
 sat (f180_single s i q3 a b c d e f g h q r t) fun (v, j, r', t', q') => 0 ≤ v ∧ v ≤ 255 ∧ i ≤ j ∧ j ≤ s.size ∧ r = r' ∧ t = t' ∧ (q' = true ∨ i < j) := by
 unfold f180_single
 refine i_cond (fun _ => sat_mk ⟨by decide, by decide, by omega, h1, rfl, rfl, .inl rfl⟩) fun hh => ?_
 have hh : ¬ i ≥ (s.size : Int) := of_decide_eq_false hh
 have ew : wrap .i64 (i + 1) = i + 1 := wrap_id (by omega) (by omega)
 refine i_getB h0 (by omega) fun u => ?_
 have hu := u.toNat_lt
 refine i_sbind ?_
 have key : ∀ q' : Bool, sat (cond ((u.toNat : Int) == 92) (cond (decide ((wrap .i64 (i + 1)) ≥ (s.size : Int))) (some ((0 : Int), (wrap .i64 (i + 1)), r, t, true)) (getB s (wrap .i64 (i + 1)) fun c27 => some ((c27.toNat : Int), (wrap .i64 ((wrap .i64 (i + 1)) + 1)), r, t, q'))) (some ((u.toNat : Int), (wrap .i64 (i + 1)), r, t, q')))
  fun (v, j, r', t', q') => 0 ≤ v ∧ v ≤ 255 ∧ i ≤ j ∧ j ≤ s.size ∧ r = r' ∧ t = t' ∧ (q' = true ∨ i < j) := by
  intro q'
  rw [ew]
  refine i_cond (fun _ => ?_) fun _ => sat_mk ⟨by omega, by omega, by omega, by omega, rfl, rfl, .inr (by omega)⟩
  refine i_cond (fun _ => sat_mk ⟨by decide, by decide, by omega, by omega, rfl, rfl, .inl rfl⟩) fun h2 => ?_
  have h2 : ¬ i + 1 ≥ (s.size : Int) := of_decide_eq_false h2
  refine i_getB (by omega) (by omega) fun v => sat_mk ?_
  have hv := v.toNat_lt
  have e2 : wrap .i64 (i + 1 + 1) = i + 1 + 1 := wrap_id (by omega) (by omega)
  show _ ∧ _ ∧ i ≤ wrap .i64 (i + 1 + 1) ∧ wrap .i64 (i + 1 + 1) ≤ _ ∧ _ ∧ _ ∧ (_ ∨ i < wrap .i64 (i + 1 + 1))
  rw [e2]
  exact ⟨by omega, by omega, by omega, by omega, rfl, rfl, .inr (by omega)⟩
 refine i_cond (fun _ => sat_mk (key _)) fun _ => i_cond (fun _ => sat_mk (key _)) fun _ => i_cond (fun _ => sat_mk (key _)) fun _ => sat_mk (key _)
theorem turn_t (a b c d : Int) : f176_turn a b c d = some (bNot .u64 a, bNot .u64 b, bNot .u64 c, bNot .u64 d) := rfl
theorem joina_t (w : N4) (q : Bool) (a b c d e f g h : Int) : ∃ v, f141a_join w q a b c d e f g h = some v := ⟨_, rfl⟩
theorem joinb_t (w : N4) (q : Bool) (a b c d e f g h : Int) : ∃ v, f141b_join w q a b c d e f g h = some v := ⟨_, rfl⟩
theorem joinc_t (w : N4) (a b c d : Int) : ∃ v, f141c_join w a b c d = some v := ⟨_, rfl⟩
theorem has_t {i : Int} {a b c d : Int} (h0 : 0 ≤ i) (h1 : i < 256) : sat (f140_has i a b c d) fun _ => True := by
 unfold f140_has
 have h := (d64 h0 h1).2.2
 have k : ∀ x : Bool, sat (cond x (some true) (some false)) fun _ => True := fun x => i_cond (fun _ => any _) fun _ => any _
 exact four (.inl rfl) h0 h1 (i_grdP h (k _)) (i_grdP h (k _)) (i_grdP h (k _)) (i_grdP h (k _))
theorem hasb_t {w : N4} {i : Int} (h0 : 0 ≤ i) (h1 : i < 256) : sat (f139_has w i) fun _ => True := by
 obtain ⟨a, b, c, d⟩ := w
 unfold f139_has
 have h := (d64 h0 h1).2.2
 have k : ∀ x : Bool, sat (cond x (some true) (some false)) fun _ => True := fun x => i_cond (fun _ => any _) fun _ => any _
 exact four (.inr rfl) h0 h1 (i_grdP h (k _)) (i_grdP h (k _)) (i_grdP h (k _)) (i_grdP h (k _))
theorem join_t (e : Nat) (w : N4) (l : L4) (h : e < l.length) : sat (f141_join e w l) fun l' => l'.length = l.length := by
 obtain ⟨w2, w3, w4, w5⟩ := w
 unfold f141_join
 refine i_grdP (by decide) ?_
 have k : ∀ (g : Nat) (v : Int) (l : L4), e < l.length → 0 ≤ v → v + g = 4 → sat (f141_join_L1 e w2 w3 w4 w5 g v l) fun l' => l'.length = l.length := by
  intro g
  induction g with
  | zero => intro v l _ _ _; rw [f141_join_L1]; exact sat_mk rfl
  | succ g ih =>
   intro v l hl h0 hv
   rw [f141_join_L1]
   refine i_caseI h0 (by simp; omega) fun m hm => ?_
   have step : ∀ x : N4, sat (f141_join_L1 e w2 w3 w4 w5 g (v + 1) (l.set e x)) fun l' => l'.length = l.length := fun x =>
    sat_mono (ih (v + 1) (l.set e x) (by rw [List.length_set]; exact hl) (by omega) (by omega)) fun l' h => by rw [h, List.length_set]
   simp only [List.mem_cons, List.not_mem_nil, or_false] at hm
   rcases hm with rfl | rfl | rfl | rfl <;>
    exact i_getN hl fun ⟨a, b, c, d⟩ _ _ => i_getN hl fun ⟨a, b, c, d⟩ _ _ => step _
 exact k _ 0 l h (by decide) (by decide)
theorem link_t {u w : N4} {s : BA} {i : Int} {q3 : Bool} {a b c d e f g h : Int} {q : Bool} {r t : L4} (ht : t.length ≤ 256) :
 sat (f169_link u w s i q3 a b c d e f g h q r t) fun (r', t') => r = r' ∧ t'.length = t.length := by
 obtain ⟨u1, u2, u3, u4⟩ := u
 obtain ⟨w1, w2, w3, w4⟩ := w
 unfold f169_link
 refine i_grdP (by omega) ?_
 have k : ∀ (g : Nat) (v : Int) (l : L4), l.length = t.length → 0 ≤ v → v + g = t.length → sat (f169_link_L1 u1 u2 u3 u4 w1 w2 w3 w4 r g v l) fun (r', t') => r = r' ∧ t'.length = t.length := by
  intro g
  induction g with
  | zero => intro v l hl _ _; rw [f169_link_L1]; exact sat_mk ⟨rfl, hl⟩
  | succ g ih =>
   intro v l hl h0 hv
   rw [f169_link_L1]
   refine i_call (has_t h0 (by omega)) fun b _ => i_cond (fun _ => ?_) fun _ => ih (v + 1) l hl (by omega) (by omega)
   refine i_grdP ⟨h0, by omega⟩ (i_call (join_t _ _ l (by omega)) fun l' hl' => ih (v + 1) l' (by rw [hl', hl]) (by omega) (by omega))
 exact k _ 0 t rfl (by decide) (by omega)
def QB {X : Type} (s : BA) (i : Int) (r t : L4) : Sum X (Int × Bool × Int × Int × Int × Int × L4 × L4) → Prop
 | .inl _ => False
 | .inr (j, _, _, _, _, _, r', t') => i ≤ j ∧ j ≤ s.size ∧ r = r' ∧ t = t'
theorem b20_t {n : Nat} {s : BA} {i : Int} {q3 : Bool} {a b c d e f g h : Int} {r t : L4} (hn : 260 ≤ n) (hs : s.size ≤ 200) (h0 : 0 ≤ i) : ∀ (k : Nat) (j : Int) (q : Bool) (x1 x2 x3 x4 : Int), i ≤ j → j ≤ s.size → (q = false → k + j ≥ s.size + 2) → 1 ≤ k →
 sat (f177_bytes_L20 n s q3 a b c d e f g h k r t j q x1 x2 x3 x4) (QB s i r t) := by
 intro k
 induction k with
 | zero => intro j q _ _ _ _ _ _ _ hk; exfalso; omega
 | succ k ih =>
  intro j q x1 x2 x3 x4 hij hj hq hk
  rw [f177_bytes_L20]
  refine i_call (more_t (R := fun (b, r', t', q') => r = r' ∧ t = t' ∧ (b = true → q' = false ∧ q = false ∧ j < s.size)) (fun h1 h2 => ⟨rfl, rfl, fun _ => ⟨rfl, h1, h2⟩⟩) ⟨rfl, rfl, fun h => by cases h⟩) fun ⟨b1, r1, t1, q1⟩ ⟨e1, e2, h1⟩ => ?_
  subst e1; subst e2
  refine i_cond (fun hb => ?_) fun _ => sat_mk ⟨hij, hj, rfl, rfl⟩
  obtain ⟨rfl, hqf, hlt⟩ := h1 hb
  have hk2 := hq hqf
  refine i_call (peek_t (R := fun (v, r', t') => r = r' ∧ t = t') (by omega) fun v _ _ => ⟨rfl, rfl⟩) fun ⟨v, r2, t2⟩ ⟨e1, e2⟩ => ?_
  subst e1; subst e2
  refine i_cond (fun _ => ?_) fun _ => sat_mk ⟨hij, hj, rfl, rfl⟩
  refine i_sbind (i_call (single_t (by omega) hj hs) fun ⟨v1, j1, r3, t3, q2⟩ ⟨hv0, hv1, hj1, hj2, e1, e2, hp⟩ => ?_)
  subst e1; subst e2
  have fin : ∀ (v2 j2 : Int) (q4 : Bool), 0 ≤ v2 → v2 ≤ 255 → j1 ≤ j2 → j2 ≤ s.size → (q4 = true ∨ j < j2) →
   sat (cond q4 (f177_bytes_L26 v2 j2 r t n (wrap .i64 v1) x1 x2 x3 x4) (cond (decide (v2 < v1)) (f177_bytes_L25 v2 j2 r t n (wrap .i64 v1) x1 x2 x3 x4) (f177_bytes_L24 v2 j2 r t n (wrap .i64 v1) x1 x2 x3 x4)))
    (fun o => match o with
     | .inl t' => QB s i r t t'
     | .inr o => sat ((fun (v786, q787, v788, v789, v790, v791, l792, l793) => f177_bytes_L20 n s q3 a b c d e f g h k l792 l793 v786 q787 v788 v789 v790 v791) o) (QB s i r t)) := by
   intro v2 j2 q4 hv2 hv3 hj3 hj4 hpp
   have cont : ∀ (A : Option (Sum (Sum (N4 × Int × L4 × L4 × Bool) (Int × Bool × Int × Int × Int × Int × L4 × L4)) (Int × Bool × Int × Int × Int × Int × L4 × L4))), sat A (fun o => match o with | .inl _ => False | .inr (j', q', _, _, _, _, r', t') => j2 = j' ∧ r = r' ∧ t = t' ∧ (q' = true ∨ j < j2)) →
    sat A (fun o => match o with
     | .inl t' => QB s i r t t'
     | .inr o => sat ((fun (v786, q787, v788, v789, v790, v791, l792, l793) => f177_bytes_L20 n s q3 a b c d e f g h k l792 l793 v786 q787 v788 v789 v790 v791) o) (QB s i r t)) := by
    intro A hA
    refine sat_mono hA fun o ho => ?_
    rcases o with o | ⟨j', q', y1, y2, y3, y4, r', t'⟩
    · exact ho.elim
    · obtain ⟨e1, e2, e3, e4⟩ := ho
      subst e1; subst e2; subst e3
      exact ih j2 q' y1 y2 y3 y4 (by omega) hj4 (fun hq' => by
       rcases e4 with e4 | e4
       · rw [e4] at hq'; cases hq'
       · omega) (by omega)
   rw [wrap_id (by omega) (by omega)]
   refine i_cond (fun hq4 => cont _ ?_) fun hq4 => i_cond (fun _ => cont _ ?_) fun _ => cont _ ?_
   · obtain ⟨n, rfl⟩ : ∃ m, n = m + 1 := ⟨n - 1, by omega⟩
     rw [f177_bytes_L26]
     exact i_cond (fun _ => sat_mk ⟨rfl, rfl, rfl, .inl rfl⟩) fun _ => sat_mk ⟨rfl, rfl, rfl, .inl rfl⟩
   · obtain ⟨n, rfl⟩ : ∃ m, n = m + 1 := ⟨n - 1, by omega⟩
     rw [f177_bytes_L25]
     exact i_cond (fun _ => sat_mk ⟨rfl, rfl, rfl, .inl rfl⟩) fun _ => sat_mk ⟨rfl, rfl, rfl, .inl rfl⟩
   · have hlt2 : j < j2 := by
      rcases hpp with h | h
      · rw [hq4] at h; cases h
      · exact h
     have l24 : ∀ (g : Nat) (b a1 a2 a3 a4 : Int), 0 ≤ b → b ≤ 256 → g + b ≥ 257 → sat (f177_bytes_L24 v2 j2 r t g b a1 a2 a3 a4) (fun o => match o with | .inl _ => False | .inr (j', q', _, _, _, _, r', t') => j2 = j' ∧ r = r' ∧ t = t' ∧ (q' = true ∨ j < j2)) := by
      intro g
      induction g with
      | zero => intro b _ _ _ _ h0 hb hg; exfalso; omega
      | succ g ih =>
       intro b a1 a2 a3 a4 h0 hb hg
       rw [f177_bytes_L24, wrap_id (by omega) (by omega)]
       refine i_cond (fun hh => ?_) fun _ => sat_mk ⟨rfl, rfl, rfl, .inr hlt2⟩
       have hh : b ≤ v2 := of_decide_eq_true hh
       rw [wu8 h0 (by omega), wrap_id (by omega) (by omega)]
       exact i_call (add_t h0 (by omega)) fun ⟨x1, x2, x3, x4⟩ _ => ih (b + 1) x1 x2 x3 x4 (by omega) (by omega) (by omega)
     exact l24 n v1 x1 x2 x3 x4 hv0 (by omega) (by omega)
  refine i_sbind (i_call (more_t (R := fun (b, r', t', q') => r = r' ∧ t = t' ∧ (q2 = q') ∧ (b = true → j1 < s.size)) (fun h1 h2 => ⟨rfl, rfl, h1, fun _ => h2⟩) ⟨rfl, rfl, rfl, fun h => by cases h⟩) fun ⟨b5, r5, t5, q5⟩ ⟨e1, e2, e3, h5⟩ => ?_)
  subst e1; subst e2; subst e3
  refine i_cond (fun hb5 => ?_) fun _ => sat_mk (sat_mono (fin v1 j1 _ hv0 hv1 (Int.le_refl _) hj2 hp) fun o ho => by cases o <;> exact ho)
  have hj5 := h5 hb5
  refine i_call (peek_t (R := fun (v, r', t') => r = r' ∧ t = t') (by omega) fun v _ _ => ⟨rfl, rfl⟩) fun ⟨v6, r6, t6⟩ ⟨e1, e2⟩ => ?_
  subst e1; subst e2
  refine i_cond (fun _ => ?_) fun _ => sat_mk (sat_mono (fin v1 j1 _ hv0 hv1 (Int.le_refl _) hj2 hp) fun o ho => by cases o <;> exact ho)
  rw [wrap_id (by omega) (by omega)]
  refine i_call (single_t (by omega) (by omega) hs) fun ⟨v7, j7, r7, t7, q7⟩ ⟨hw0, hw1, hj7, hj8, e1, e2, hp7⟩ => ?_
  subst e1; subst e2
  exact sat_mk (sat_mono (fin v7 j7 q7 hw0 hw1 (by omega) hj8 (.inr (by omega))) fun o ho => by cases o <;> exact ho)
theorem bytes_t {n : Nat} {s : BA} {i : Int} {q3 : Bool} {a b c d e f g h : Int} {q : Bool} {r t : L4} (hn : 260 ≤ n) (hs : s.size ≤ 200) (h0 : 0 ≤ i) (h1 : i ≤ s.size) :
 sat (f177_bytes n s i q3 a b c d e f g h q r t) fun (_, j, r', t', _) => i ≤ j ∧ j ≤ s.size ∧ r = r' ∧ t = t' := by
 unfold f177_bytes
 refine i_sbind (i_call (peek_t (R := fun (v, r', t') => r = r' ∧ t = t') h0 fun v _ _ => ⟨rfl, rfl⟩) fun ⟨v, r2, t2⟩ ⟨e1, e2⟩ => ?_)
 subst e1; subst e2
 have key : ∀ (j : Int) (tn : Bool), i ≤ j → j ≤ s.size → sat (sbind (ο := Int × Bool × Int × Int × Int × Int × L4 × L4) (f177_bytes_L20 n s q3 a b c d e f g h n r t j q (0 : Int) (0 : Int) (0 : Int) (0 : Int)) (fun (v456, q457, v458, v459, v460, v461, l462, l463) => cond q457 (some (((v458, v459, v460, v461) : N4), v456, l462, l463, true)) (cond (decide (v456 ≥ (s.size : Int))) (some ((v458, v459, v460, v461), v456, l462, l463, true)) (cond tn ((f176_turn v458 v459 v460 v461).bind fun (v889, v890, v891, v892) => cond ((v889 == 0) && ((v890 == 0) && ((v891 == 0) && ((v892 == 0) && (true))))) (some ((v889, v890, v891, v892), (wrap .i64 (v456 + 1)), l462, l463, true)) (some ((v889, v890, v891, v892), (wrap .i64 (v456 + 1)), l462, l463, false))) (cond ((v458 == 0) && ((v459 == 0) && ((v460 == 0) && ((v461 == 0) && (true))))) (some ((v458, v459, v460, v461), (wrap .i64 (v456 + 1)), l462, l463, true)) (some ((v458, v459, v460, v461), (wrap .i64 (v456 + 1)), l462, l463, false)))))))
  fun (_, j, r', t', _) => i ≤ j ∧ j ≤ s.size ∧ r = r' ∧ t = t' := by
  intro j tn hij hj
  refine i_sbind (sat_mono (b20_t (i := i) hn hs h0 n j q 0 0 0 0 hij hj (fun _ => by omega) (by omega)) fun o ho => ?_)
  rcases o with o | ⟨j', q', y1, y2, y3, y4, r', t'⟩
  · exact ho.elim
  obtain ⟨k1, k2, e1, e2⟩ := ho
  subst e1; subst e2
  refine i_cond (fun _ => sat_mk ⟨k1, k2, rfl, rfl⟩) fun _ => i_cond (fun _ => sat_mk ⟨k1, k2, rfl, rfl⟩) fun hh => ?_
  have hh : ¬ j' ≥ (s.size : Int) := of_decide_eq_false hh
  have ew : wrap .i64 (j' + 1) = j' + 1 := wrap_id (by omega) (by omega)
  rw [ew]
  refine i_cond (fun _ => ?_) fun _ => ?_
  · rw [turn_t]
    exact i_cond (fun _ => sat_mk ⟨by omega, by omega, rfl, rfl⟩) fun _ => sat_mk ⟨by omega, by omega, rfl, rfl⟩
  · exact i_cond (fun _ => sat_mk ⟨by omega, by omega, rfl, rfl⟩) fun _ => sat_mk ⟨by omega, by omega, rfl, rfl⟩
 refine i_cond (fun _ => i_cond (fun hh => sat_mk ?_) fun _ => sat_mk ?_) fun _ => sat_mk ?_
 · have hh : i < (s.size : Int) := of_decide_eq_true hh
   refine i_sbind (sat_mk ?_)
   rw [wrap_id (by omega) (by omega)]
   exact key _ _ (by omega) (by omega)
 · exact i_sbind (sat_mk (key _ _ (Int.le_refl _) h1))
 · exact i_sbind (sat_mk (key _ _ (Int.le_refl _) h1))
end Go.Clap
