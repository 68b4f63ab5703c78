/- The checks of the small code against the loaded functions. -/
import Derived.Test.YtnjgakngmbbmfaaGreatDoorClapT0
set_option linter.unusedVariables false
set_option linter.unusedSimpArgs false
set_option maxRecDepth 100000
set_option maxHeartbeats 4000000
namespace Go.Clap
open Go.IntKind (wrap)
abbrev Rd := BA → Int → Bool → Int → Int → Int → Int → Int → Int → Int → Int → Bool → L4 → L4 → Option R13
def Adv (s : BA) (F : Rd) (ok : Int → Prop) (d : Int) : Prop := ∀ i q3 a b c e f g h k q r t, OkS s i r t → ok i → sat (F s i q3 a b c e f g h k q r t) (P13 s (i + d) r.length)
theorem P13.mk {s : BA} {i : Int} {n : Nat} {q : Bool} {a b c d e f g h j : Int} {r t : L4} {fl : Bool} (h1 : i ≤ j) (h2 : OkS s j r t) (h3 : n ≤ r.length) : P13 s i n (q, a, b, c, d, e, f, g, h, j, r, t, fl) := ⟨h1, h2, h3⟩
theorem atom_t {n : Nat} {s : BA} {F : Rd} {i0 : Int} (hn : 260 ≤ n) (hF : Adv s F (fun i => i0 + 1 ≤ i) 0) : Adv s (b173_atom n F) (fun i => i0 ≤ i ∧ i < s.size) 1 := by
 intro i q3 a b c e f g h k q r t hO hi'
 obtain ⟨hi0, hi⟩ := hi'
 obtain ⟨o0, o1, o2, o3, o4, o5⟩ := hO
 unfold b173_atom
 have ew : wrap .i64 (i + 1) = i + 1 := wrap_id (by omega) (by omega)
 refine i_call (peek_t (R := fun (v, r', t') => 0 ≤ v ∧ v ≤ 255 ∧ r = r' ∧ t = t') o0 fun v h0 h1 => ⟨h0, h1, rfl, rfl⟩) fun ⟨v, r1, t1⟩ ⟨hv0, hv1, e1, e2⟩ => ?_
 subst e1; subst e2
 rw [ew]
 have pos : ∀ {j : Int} {w : N4} {r' t' : L4} {fl : Bool}, r = r' → t = t' → i + 1 ≤ j → j ≤ s.size → ∀ {q' : Bool},
  sat ((f179_position w s j q3 a b c e f g h k fl r' t').bind fun (q28, v29, v30, v31, v32, v33, v34, v35, v36, l37, l38, q39) => some (q28, v29, v30, v31, v32, v33, v34, v35, v36, j, l37, l38, q39)) (P13 s (i + 1) r.length) := by
  intro j w r' t' fl e1 e2 h1 h2 _
  subst e1; subst e2
  exact i_call (position_t o3 o5) fun ⟨q28, v29, v30, v31, v32, v33, v34, v35, v36, l37, l38, q39⟩ ⟨p1, p2, p3⟩ => sat_mk (P13.mk h1 ⟨by omega, h2, o2, p1, by omega, p3⟩ p2)
 refine i_cond (fun _ => ?_) fun _ => i_cond (fun _ => ?_) fun _ => i_cond (fun _ => ?_) fun _ => i_cond (fun _ => ?_) fun _ => ?_
 · refine i_call (hF (i + 1) q3 a b c e f g h k q r t ⟨by omega, by omega, o2, o3, o4, o5⟩ (by show i0 + 1 ≤ i + 1; omega)) fun ⟨q94, v95, v96, v97, v98, v99, v100, v101, v102, v103, l104, l105, q106⟩ ⟨p1, p2, p3⟩ => ?_
   obtain ⟨u0, u1, u2, u3, u4, u5⟩ := p2
   have fin : ∀ q' : Bool, (q' = false → v103 < s.size) → sat (cond q' (some (q94, v95, v96, v97, v98, v99, v100, v101, v102, v103, l104, l105, true)) (some (q94, v95, v96, v97, v98, v99, v100, v101, v102, (wrap .i64 (v103 + 1)), l104, l105, false))) (P13 s (i + 1) r.length) := by
    intro q' hq'
    refine i_cond (fun _ => sat_mk (P13.mk (by omega) ⟨u0, u1, u2, u3, u4, u5⟩ p3)) fun hh => ?_
    have := hq' hh
    rw [wrap_id (by omega) (by omega)]
    exact sat_mk (P13.mk (by omega) ⟨by omega, by omega, u2, u3, u4, u5⟩ p3)
   refine i_sbind (i_cond (fun _ => sat_mk (fin true (fun h => by cases h))) fun _ => ?_)
   refine i_call (peek_t (R := fun (v, r', t') => l104 = r' ∧ l105 = t') u0 fun v _ _ => ⟨rfl, rfl⟩) fun ⟨v, r1, t1⟩ ⟨e1, e2⟩ => ?_
   subst e1; subst e2
   refine i_cond (fun _ => sat_mk (fin true (fun h => by cases h))) fun _ => i_cond (fun _ => sat_mk (fin true (fun h => by cases h))) fun hh => sat_mk (fin false fun _ => ?_)
   have hh : ¬ v103 ≥ (s.size : Int) := of_decide_eq_false hh
   omega
 · rw [turn_t]
   exact pos rfl rfl (by omega) (by omega) (q' := q)
 · refine i_call (bytes_t hn o2 (by omega) (by omega)) fun ⟨⟨w58, w59, w60, w61⟩, v62, l63, l64, q65⟩ ⟨p1, p2, e1, e2⟩ => ?_
   exact pos e1 e2 p1 p2 (q' := q)
 · refine i_cond (fun _ => sat_mk (P13.mk (by omega) ⟨by omega, by omega, o2, o3, o4, o5⟩ (Nat.le_refl _))) fun hh => ?_
   have hh : ¬ i + 1 ≥ (s.size : Int) := of_decide_eq_false hh
   refine i_getB (by omega) (by omega) fun u => ?_
   have hu := u.toNat_lt
   rw [wrap_id (show -9223372036854775808 ≤ i + 1 + 1 by omega) (by omega)]
   exact i_call (add_t (by omega) (by omega)) fun ⟨x1, x2, x3, x4⟩ _ => pos rfl rfl (by omega) (by omega) (q' := q)
 · refine i_call (Q := fun _ => True) ⟨_, rfl, trivial⟩ fun v22 _ => ?_
   refine i_cond (fun _ => sat_mk (P13.mk (by omega) ⟨by omega, by omega, o2, o3, o4, o5⟩ (Nat.le_refl _))) fun _ => ?_
   exact i_call (add_t hv0 (by omega)) fun ⟨x1, x2, x3, x4⟩ _ => pos rfl rfl (by omega) (by omega) (q' := q)
theorem item_t {s : BA} {F : Rd} {i0 : Int} (hF : Adv s F (fun i => i0 ≤ i ∧ i < s.size) 1) : Adv s (b168_item F) (fun i => i0 ≤ i ∧ i < s.size) 1 := by
 intro i q3 a b c e f g h k q r t hO hi
 unfold b168_item
 refine i_call (hF i q3 a b c e f g h k q r t hO hi) fun ⟨q15, v16, v17, v18, v19, v20, v21, v22, v23, v24, l25, l26, q27⟩ ⟨p1, p2, p3⟩ => ?_
 obtain ⟨u0, u1, u2, u3, u4, u5⟩ := p2
 refine i_call (more_t (R := fun (b, r', t', q') => l25 = r' ∧ l26 = t' ∧ (b = true → v24 < s.size)) (fun h1 h2 => ⟨rfl, rfl, fun _ => h2⟩) ⟨rfl, rfl, fun h => by cases h⟩) fun ⟨b1, r1, t1, q1⟩ ⟨e1, e2, h1⟩ => ?_
 subst e1; subst e2
 refine i_cond (fun hb => ?_) fun _ => sat_mk (P13.mk p1 ⟨u0, u1, u2, u3, u4, u5⟩ p3)
 have hlt := h1 hb
 refine i_call (peek_t (R := fun (v, r', t') => l25 = r' ∧ l26 = t') u0 fun v _ _ => ⟨rfl, rfl⟩) fun ⟨v32, r1, t1⟩ ⟨e1, e2⟩ => ?_
 subst e1; subst e2
 rw [wrap_id (show -9223372036854775808 ≤ v24 + 1 by omega) (by omega)]
 have fin : ∀ (l l' : L4), l25 = l → l'.length = l26.length → ∀ qq, sat (cond q15 (some (true, v16, v17, v18, v19, v20, v21, v22, v23, v24 + 1, l, l', qq)) (cond (v32 != 43) (some (true, v16, v17, v18, v19, v20, v21, v22, v23, v24 + 1, l, l', qq)) (some (false, v16, v17, v18, v19, v20, v21, v22, v23, v24 + 1, l, l', qq)))) (P13 s (i + 1) r.length) := by
  intro l l' e1 e2 qq
  subst e1
  have ok : OkS s (v24 + 1) l25 l' := ⟨by omega, by omega, u2, by omega, u4, u5⟩
  exact i_cond (fun _ => sat_mk (P13.mk (by omega) ok p3)) fun _ => i_cond (fun _ => sat_mk (P13.mk (by omega) ok p3)) fun _ => sat_mk (P13.mk (by omega) ok p3)
 have lk : ∀ qq, sat ((f169_link (v20, v21, v22, v23) (v16, v17, v18, v19) s (v24 + 1) q3 a b c e f g h k q1 l25 l26).bind fun (l38, l39) => cond q15 (some (true, v16, v17, v18, v19, v20, v21, v22, v23, v24 + 1, l38, l39, qq)) (cond (v32 != 43) (some (true, v16, v17, v18, v19, v20, v21, v22, v23, v24 + 1, l38, l39, qq)) (some (false, v16, v17, v18, v19, v20, v21, v22, v23, v24 + 1, l38, l39, qq)))) (P13 s (i + 1) r.length) := fun qq =>
  i_call (link_t (by omega)) fun ⟨l38, l39⟩ ⟨e1, e2⟩ => fin l38 l39 e1 e2 qq
 refine i_cond (fun _ => i_cond (fun _ => i_cond (fun _ => ?_) fun _ => ?_) fun _ => ?_) fun _ => ?_
 · exact sat_mk (P13.mk p1 ⟨u0, u1, u2, u3, u4, u5⟩ p3)
 · exact i_cond (fun _ => lk _) fun _ => fin _ _ rfl rfl _
 · exact i_cond (fun _ => lk _) fun _ => fin _ _ rfl rfl _
 · exact i_cond (fun _ => lk _) fun _ => fin _ _ rfl rfl _
def QS {X : Type} (s : BA) (i : Int) (n : Nat) : Sum X (Bool × Int × Int × Int × Int × Int × Int × Int × Int × Int × Bool × L4 × L4) → Prop
 | .inl _ => False
 | .inr (_, _, _, _, _, _, _, _, _, j, _, r, t) => i ≤ j ∧ OkS s j r t ∧ n ≤ r.length
theorem seq_l {s : BA} {F : Rd} {q3 : Bool} {a b c e f g h k : Int} {i : Int} {n : Nat} (hF : Adv s F (fun x => i ≤ x ∧ x < s.size) 1) : ∀ (m : Nat) (r t : L4) (j : Int) (q q2 : Bool) (x1 x2 x3 x4 x5 x6 x7 x8 : Int), i ≤ j → OkS s j r t → n ≤ r.length → m + j ≥ s.size + 1 →
 sat (f155_sequence_L2 F s q3 a b c e f g h k m r t j q q2 x1 x2 x3 x4 x5 x6 x7 x8) (QS s i n) := by
 intro m
 induction m with
 | zero => intro r t j q q2 x1 x2 x3 x4 x5 x6 x7 x8 hij hO hn hm; have := hO.2.1; exfalso; omega
 | succ m ih =>
  intro r t j q q2 x1 x2 x3 x4 x5 x6 x7 x8 hij hO hn hm
  obtain ⟨o0, o1, o2, o3, o4, o5⟩ := hO
  have out : ∀ qq : Bool, QS (X := R13) s i n (.inr (q2, x1, x2, x3, x4, x5, x6, x7, x8, j, qq, r, t)) := fun qq => ⟨hij, ⟨o0, o1, o2, o3, o4, o5⟩, hn⟩
  rw [f155_sequence_L2]
  refine i_call (more_t (R := fun (b, r', t', q') => r = r' ∧ t = t' ∧ (b = true → j < s.size)) (fun h1 h2 => ⟨rfl, rfl, fun _ => h2⟩) ⟨rfl, rfl, fun h => by cases h⟩) fun ⟨b1, r1, t1, q1⟩ ⟨e1, e2, h1⟩ => ?_
  subst e1; subst e2
  refine i_cond (fun hb => ?_) fun _ => sat_mk (out _)
  have hlt := h1 hb
  refine i_call (peek_t (R := fun (v, r', t') => r = r' ∧ t = t') o0 fun v _ _ => ⟨rfl, rfl⟩) fun ⟨v, r1, t1⟩ ⟨e1, e2⟩ => ?_
  subst e1; subst e2
  refine i_cond (fun _ => ?_) fun _ => sat_mk (out _)
  refine i_call (peek_t (R := fun (v, r', t') => r = r' ∧ t = t') o0 fun v _ _ => ⟨rfl, rfl⟩) fun ⟨v, r1, t1⟩ ⟨e1, e2⟩ => ?_
  subst e1; subst e2
  refine i_cond (fun _ => ?_) fun _ => sat_mk (out _)
  refine i_call (hF j q3 a b c e f g h k q1 r t ⟨o0, o1, o2, o3, o4, o5⟩ ⟨hij, hlt⟩) fun ⟨q260, v261, v262, v263, v264, v265, v266, v267, v268, v269, l270, l271, q272⟩ ⟨p1, p2, p3⟩ => ?_
  obtain ⟨u0, u1, u2, u3, u4, u5⟩ := p2
  refine i_call (link_t (by omega)) fun ⟨l273, l274⟩ ⟨e1, e2⟩ => ?_
  subst e1
  have ok : OkS s v269 l270 l274 := ⟨u0, u1, u2, by omega, u4, u5⟩
  have tail : ∀ (q279 : Bool) (y1 y2 y3 y4 : Int) (o : Int × Int × Int × Int × Bool), sat ((f141b_join (v265, v266, v267, v268) q279 y1 y2 y3 y4 o.1 o.2.1 o.2.2.1 o.2.2.2.1).bind fun (v295, v296, v297, v298) => cond q279 (f155_sequence_L2 F s q3 a b c e f g h k m l270 l274 v269 q272 o.2.2.2.2 y1 y2 y3 y4 v295 v296 v297 v298) (f155_sequence_L2 F s q3 a b c e f g h k m l270 l274 v269 q272 false y1 y2 y3 y4 v295 v296 v297 v298)) (QS s i n) := by
   intro q279 y1 y2 y3 y4 o
   obtain ⟨w, hw⟩ := joinb_t (v265, v266, v267, v268) q279 y1 y2 y3 y4 o.1 o.2.1 o.2.2.1 o.2.2.2.1
   obtain ⟨w1, w2, w3, w4⟩ := w
   refine i_call (Q := fun _ => True) ⟨_, hw, trivial⟩ fun ⟨z1, z2, z3, z4⟩ _ => ?_
   exact i_cond (fun _ => ih _ _ _ _ _ _ _ _ _ _ _ _ _ (by omega) ok (by omega) (by omega)) fun _ => ih _ _ _ _ _ _ _ _ _ _ _ _ _ (by omega) ok (by omega) (by omega)
  have mid : ∀ (q279 : Bool) (y1 y2 y3 y4 : Int), sat (sbind (ο := Int × Int × Int × Int × Bool) (cond q260 (some (.inr (x5, x6, x7, x8, true))) (some (.inr (0, 0, 0, 0, false)))) (fun (v289, v290, v291, v292, q293) => (f141b_join (v265, v266, v267, v268) q279 y1 y2 y3 y4 v289 v290 v291 v292).bind fun (v295, v296, v297, v298) => cond q279 (f155_sequence_L2 F s q3 a b c e f g h k m l270 l274 v269 q272 q293 y1 y2 y3 y4 v295 v296 v297 v298) (f155_sequence_L2 F s q3 a b c e f g h k m l270 l274 v269 q272 false y1 y2 y3 y4 v295 v296 v297 v298))) (QS s i n) := by
   intro q279 y1 y2 y3 y4
   refine i_sbind (i_cond (fun _ => sat_mk (tail q279 y1 y2 y3 y4 (x5, x6, x7, x8, true))) fun _ => sat_mk (tail q279 y1 y2 y3 y4 (0, 0, 0, 0, false)))
  refine i_sbind (i_cond (fun _ => ?_) fun _ => sat_mk (mid false x1 x2 x3 x4))
  obtain ⟨w, hw⟩ := joina_t (v261, v262, v263, v264) true x1 x2 x3 x4 x5 x6 x7 x8
  refine i_call (Q := fun _ => True) ⟨_, hw, trivial⟩ fun ⟨z1, z2, z3, z4⟩ _ => sat_mk (mid true z1 z2 z3 z4)
theorem seq_t {s : BA} {n : Nat} {F : Rd} {i0 : Int} (hn : 260 ≤ n) (hs : s.size ≤ 200) (hF : Adv s F (fun i => i0 ≤ i ∧ i < s.size) 1) : Adv s (b155_sequence n F) (fun i => i0 ≤ i) 0 := by
 intro i q3 a b c e f g h k q r t hO hi
 unfold b155_sequence
 refine i_sbind (sat_mono (seq_l (i := i) (n := r.length) (fun i' q3 a b c e f g h k q r t hO hx => hF i' q3 a b c e f g h k q r t hO ⟨Int.le_trans hi hx.1, hx.2⟩) n r t i q true 0 0 0 0 0 0 0 0 (Int.le_refl _) hO (Nat.le_refl _) (by have := hO.1; omega)) fun o ho => ?_)
 rcases o with o | ⟨q149, v150, v151, v152, v153, v154, v155, v156, v157, v158, q159, l160, l161⟩
 · exact ho.elim
 · exact sat_mk (P13.mk (by have := ho.1; omega) ho.2.1 ho.2.2)
theorem alt_l {s : BA} {F : Rd} {q3 : Bool} {a b c e f g h k : Int} {i : Int} {n : Nat} (hF : Adv s F (fun x => i ≤ x) 0) : ∀ (m : Nat) (r t : L4) (j : Int) (q q2 : Bool) (x1 x2 x3 x4 x5 x6 x7 x8 : Int), i ≤ j → OkS s j r t → n ≤ r.length → m + j ≥ s.size + 1 →
 sat (f138_alternatives_L2 F s q3 a b c e f g h k m r t j q q2 x1 x2 x3 x4 x5 x6 x7 x8) (QS s i n) := by
 intro m
 induction m with
 | zero => intro r t j q q2 x1 x2 x3 x4 x5 x6 x7 x8 hij hO hn hm; have := hO.2.1; exfalso; omega
 | succ m ih =>
  intro r t j q q2 x1 x2 x3 x4 x5 x6 x7 x8 hij hO hn hm
  obtain ⟨o0, o1, o2, o3, o4, o5⟩ := hO
  have out : ∀ qq : Bool, QS (X := R13) s i n (.inr (q2, x1, x2, x3, x4, x5, x6, x7, x8, j, qq, r, t)) := fun qq => ⟨hij, ⟨o0, o1, o2, o3, o4, o5⟩, hn⟩
  rw [f138_alternatives_L2]
  refine i_call (more_t (R := fun (b, r', t', q') => r = r' ∧ t = t' ∧ (b = true → j < s.size)) (fun h1 h2 => ⟨rfl, rfl, fun _ => h2⟩) ⟨rfl, rfl, fun h => by cases h⟩) fun ⟨b1, r1, t1, q1⟩ ⟨e1, e2, h1⟩ => ?_
  subst e1; subst e2
  refine i_cond (fun hb => ?_) fun _ => sat_mk (out _)
  have hlt := h1 hb
  refine i_call (peek_t (R := fun (v, r', t') => r = r' ∧ t = t') o0 fun v _ _ => ⟨rfl, rfl⟩) fun ⟨v, r1, t1⟩ ⟨e1, e2⟩ => ?_
  subst e1; subst e2
  refine i_cond (fun _ => ?_) fun _ => sat_mk (out _)
  rw [wrap_id (show -9223372036854775808 ≤ j + 1 by omega) (by omega)]
  refine i_call (hF (j + 1) q3 a b c e f g h k q1 r t ⟨by omega, by omega, o2, o3, o4, o5⟩ (by show i ≤ j + 1; omega)) fun ⟨q227, v228, v229, v230, v231, v232, v233, v234, v235, v236, l237, l238, q239⟩ ⟨p1, p2, p3⟩ => ?_
  have stp : ∀ (qq qr : Bool), sat ((f141a_join (v228, v229, v230, v231) qq x1 x2 x3 x4 x5 x6 x7 x8).bind fun (v248, v249, v250, v251) => (f141b_join (v232, v233, v234, v235) qq v248 v249 v250 v251 x5 x6 x7 x8).bind fun (v252, v253, v254, v255) => f138_alternatives_L2 F s q3 a b c e f g h k m l237 l238 v236 q239 qr v248 v249 v250 v251 v252 v253 v254 v255) (QS s i n) := by
   intro qq qr
   obtain ⟨w, hw⟩ := joina_t (v228, v229, v230, v231) qq x1 x2 x3 x4 x5 x6 x7 x8
   refine i_call (Q := fun _ => True) ⟨_, hw, trivial⟩ fun ⟨z1, z2, z3, z4⟩ _ => ?_
   obtain ⟨w, hw⟩ := joinb_t (v232, v233, v234, v235) qq z1 z2 z3 z4 x5 x6 x7 x8
   refine i_call (Q := fun _ => True) ⟨_, hw, trivial⟩ fun ⟨y1, y2, y3, y4⟩ _ => ?_
   exact ih _ _ _ _ _ _ _ _ _ _ _ _ _ (by omega) p2 (by omega) (by omega)
  exact i_cond (fun _ => stp true true) fun _ => stp q227 q227
theorem alt_t {s : BA} {n : Nat} {F : Rd} {i0 : Int} (hn : 260 ≤ n) (hs : s.size ≤ 200) (hF : Adv s F (fun i => i0 ≤ i) 0) : Adv s (b138_alternatives n F) (fun i => i0 ≤ i) 0 := by
 intro i q3 a b c e f g h k q r t hO hi
 unfold b138_alternatives
 refine i_call (hF i q3 a b c e f g h k q r t hO hi) fun ⟨q15, v16, v17, v18, v19, v20, v21, v22, v23, v24, l25, l26, q27⟩ ⟨p1, p2, p3⟩ => ?_
 refine i_sbind (sat_mono (alt_l (i := i) (n := r.length) (fun i' q3 a b c e f g h k q r t hO hx => hF i' q3 a b c e f g h k q r t hO (Int.le_trans hi hx)) n l25 l26 v24 q27 q15 v16 v17 v18 v19 v20 v21 v22 v23 (by omega) p2 p3 (by have := hO.1; omega)) fun o ho => ?_)
 rcases o with o | ⟨q149, v150, v151, v152, v153, v154, v155, v156, v157, v158, q159, l160, l161⟩
 · exact ho.elim
 · exact sat_mk (P13.mk (by have := ho.1; omega) ho.2.1 ho.2.2)
theorem Adv.none {s : BA} {F : Rd} {ok : Int → Prop} {d : Int} (h : ∀ i, ok i → s.size < i) : Adv s F ok d :=
 fun i _ _ _ _ _ _ _ _ _ _ _ _ hO hi => by have := h i hi; have := hO.2.1; exfalso; omega
theorem rd_t (s : BA) (hs : s.size ≤ 200) : ∀ (n : Nat),
 (∀ i0 : Int, (n : Int) + 4 * i0 ≥ 4 * (s.size : Int) + 304 → Adv s (S138_alternatives n).1 (fun i => i0 ≤ i) 0) ∧
 (∀ i0 : Int, (n : Int) + 4 * i0 ≥ 4 * (s.size : Int) + 303 → Adv s (S138_alternatives n).2.1 (fun i => i0 ≤ i) 0) ∧
 (∀ i0 : Int, (n : Int) + 4 * i0 ≥ 4 * (s.size : Int) + 302 → Adv s (S138_alternatives n).2.2.1 (fun i => i0 ≤ i ∧ i < s.size) 1) ∧
 (∀ i0 : Int, (n : Int) + 4 * i0 ≥ 4 * (s.size : Int) + 301 → Adv s (S138_alternatives n).2.2.2 (fun i => i0 ≤ i ∧ i < s.size) 1)
 | 0 => ⟨fun i0 h => Adv.none fun i hi => by omega, fun i0 h => Adv.none fun i hi => by omega, fun i0 h => Adv.none fun i hi => by omega, fun i0 h => Adv.none fun i hi => by omega⟩
 | n + 1 => by
  obtain ⟨hA, hB, hC, hD⟩ := rd_t s hs n
  refine ⟨fun i0 h => ?_, fun i0 h => ?_, fun i0 h => ?_, fun i0 h => ?_⟩
  · by_cases hi : (s.size : Int) < i0
    · exact Adv.none fun i hi' => by omega
    · exact alt_t (by omega) hs (hB i0 (by omega))
  · by_cases hi : (s.size : Int) < i0
    · exact Adv.none fun i hi' => by omega
    · exact seq_t (by omega) hs (hC i0 (by omega))
  · exact item_t (hD i0 (by omega))
  · by_cases hi : (s.size : Int) < i0
    · exact Adv.none fun i hi' => by omega
    · exact atom_t (by omega) (hA (i0 + 1) (by omega))
def PP (x : L4 × L4 × Bool × Int × Int × Int × Int × Int × Int × Int × Int × Int) : Prop := x.2.2.2.2.2.2.2.2.2.2.2 ≠ 0 ∨ (x.1.length = x.2.1.length ∧ 1 ≤ x.1.length ∧ x.1.length ≤ 256)
theorem parse_t (s : BA) {n : Nat} (hn : 1200 ≤ n) : sat (f109_parse n s) PP := by
 unfold f109_parse
 refine i_cond (fun _ => sat_mk (.inl (by decide))) fun hh => ?_
 have hh : ¬ (s.size : Int) > 200 := of_decide_eq_false hh
 have hs : s.size ≤ 200 := by omega
 refine i_call ((rd_t s hs n).1 0 (by omega) 0 _ _ _ _ _ _ _ _ _ _ _ _ ⟨Int.le_refl _, by omega, hs, rfl, by decide, by decide⟩ (Int.le_refl _)) fun ⟨q3, v4, v5, v6, v7, v8, v9, v10, v11, v12, l13, l14, q15⟩ ⟨p1, p2, p3⟩ => ?_
 obtain ⟨u0, u1, u2, u3, u4, u5⟩ := p2
 refine i_cond (fun _ => sat_mk (.inl (by decide))) fun _ => i_cond (fun _ => sat_mk (.inl (by decide))) fun _ => ?_
 refine i_grdP ⟨by decide, by omega⟩ (i_getN (by show 0 + 0 < _; omega) fun ⟨a, b, c, d⟩ _ _ => sat_mk (.inr ?_))
 exact ⟨by rw [List.length_set]; exact u3, u4, u5⟩
end Go.Clap

set_option linter.unusedVariables false
set_option linter.unusedSimpArgs false
set_option maxRecDepth 100000
set_option maxHeartbeats 4000000
namespace Go.Clap
open Go.IntKind (wrap)
theorem addc_t {e : Nat} {v : Int} {r : L4} (h0 : 0 ≤ v) (h1 : v < 256) (he : e < r.length) : sat (f110c_add e v r) fun r' => r'.length = r.length := by
 unfold f110c_add
 have h := (d64 h0 h1).2.2
 refine four (.inl rfl) h0 h1 ?_ ?_ ?_ ?_ <;>
  exact i_getN he fun ⟨a, b, c, d⟩ _ _ => i_grdP h (i_getN he fun ⟨a, b, c, d⟩ _ _ => sat_mk (by rw [List.length_set]))
theorem at10_t {v : Int} (h0 : 0 ≤ v) (h1 : v < 256) : ∀ (l : L4) (j : Nat) (r : L4), j + l.length ≤ 256 → r.length = 256 → sat (f111_at_L10 v l j r) fun o => match o with | .inl _ => False | .inr r' => r'.length = 256
 | [], j, r, _, hr => by rw [f111_at_L10]; exact sat_mk hr
 | (a, b, c, d) :: l, j, r, hj, hr => by
  simp only [List.length_cons] at hj
  rw [f111_at_L10, wu8 h0 (by omega)]
  refine i_call (hasb_t h0 h1) fun q _ => i_cond (fun _ => ?_) fun _ => at10_t h0 h1 l (j + 1) r (by omega) hr
  exact i_grdP ⟨h0, h1⟩ (i_call (addc_t (by omega) (by omega) (by omega)) fun r' hr' => at10_t h0 h1 l (j + 1) r' (by omega) (by rw [hr', hr]))
theorem at8_t {l1 : L4} (hl : l1.length ≤ 256) : ∀ (g : Nat) (v : Int) (r : L4), 0 ≤ v → v + g = 256 → r.length = 256 → sat (f111_at_L8 l1 g v r) fun o => match o with | .inl _ => False | .inr r' => r'.length = 256 := by
 intro g
 induction g with
 | zero => intro v r _ _ hr; rw [f111_at_L8]; exact sat_mk hr
 | succ g ih =>
  intro v r h0 hv hr
  rw [f111_at_L8]
  refine i_sbind (sat_mono (at10_t h0 (by omega) l1 0 r (by omega) hr) fun o ho => ?_)
  rcases o with o | r'
  · exact ho.elim
  · exact ih (v + 1) r' (by omega) (by omega) ho
theorem at_t {l1 l2 : L4} {q : Bool} {a b c d e f g h : Int} (hl : l1.length ≤ 256) : sat (f111_at l1 l2 q a b c d e f g h) fun r => r.length = 256 := by
 unfold f111_at
 refine i_sbind (i_grdP (by decide) (sat_mono (at8_t hl _ 0 _ (Int.le_refl _) (by decide) (by simp)) fun o ho => ?_))
 rcases o with o | r'
 · exact ho.elim
 · exact sat_mk ho
theorem beh_l {w1 w2 w3 w4 : Int} : ∀ (l : L4) (j : Nat) (a b c d : Int), j + l.length ≤ 256 → sat (f112_behind_L2 w1 w2 w3 w4 l j a b c d) fun o => match o with | .inl _ => False | .inr _ => True
 | [], j, a, b, c, d, _ => by rw [f112_behind_L2]; exact sat_mk trivial
 | (x1, x2, x3, x4) :: l, j, a, b, c, d, hj => by
  simp only [List.length_cons] at hj
  rw [f112_behind_L2]
  refine i_call (has_t (by omega) (by omega)) fun q _ => i_cond (fun _ => ?_) fun _ => beh_l l (j + 1) _ _ _ _ (by omega)
  obtain ⟨w, hw⟩ := joinc_t (x1, x2, x3, x4) a b c d
  exact i_call (Q := fun _ => True) ⟨_, hw, trivial⟩ fun ⟨y1, y2, y3, y4⟩ _ => beh_l l (j + 1) _ _ _ _ (by omega)
theorem beh_t {w : N4} {l5 l6 : L4} {q : Bool} {a b c d e f g h : Int} (hl : l6.length ≤ 256) : sat (f112_behind w l5 l6 q a b c d e f g h) fun _ => True := by
 obtain ⟨w1, w2, w3, w4⟩ := w
 unfold f112_behind
 refine i_sbind (sat_mono (beh_l l6 0 0 0 0 0 (by omega)) fun o ho => ?_)
 rcases o with o | ⟨x1, x2, x3, x4⟩
 · exact ho.elim
 · exact any _
theorem ends2_t {w1 w2 w3 w4 : Int} {q : Bool} {a b c d : Int} : ∀ (g : Nat) (v : Int), 0 ≤ v → v + g = 4 → sat (f113_ends_L2 w1 w2 w3 w4 q a b c d g v) fun _ => True := by
 intro g
 induction g with
 | zero => intro v _ _; rw [f113_ends_L2]; exact any _
 | succ g ih =>
  intro v h0 hv
  rw [f113_ends_L2]
  refine i_caseI h0 (by simp; omega) fun m hm => ?_
  simp only [List.mem_cons, List.not_mem_nil, or_false] at hm
  rcases hm with rfl | rfl | rfl | rfl <;> exact i_cond (fun _ => i_lft (any _)) fun _ => ih (v + 1) (by omega) (by omega)
theorem ends4_t {w1 w2 w3 w4 : Int} {a b c d : Int} : ∀ (g : Nat) (v : Int), 0 ≤ v → v + g = 4 → sat (f113_ends_L4 w1 w2 w3 w4 a b c d g v) fun _ => True := by
 intro g
 induction g with
 | zero => intro v _ _; rw [f113_ends_L4]; exact any _
 | succ g ih =>
  intro v h0 hv
  rw [f113_ends_L4]
  refine i_caseI h0 (by simp; omega) fun m hm => ?_
  simp only [List.mem_cons, List.not_mem_nil, or_false] at hm
  rcases hm with rfl | rfl | rfl | rfl <;> exact i_cond (fun _ => i_lft (any _)) fun _ => ih (v + 1) (by omega) (by omega)
theorem ends_t {w : N4} {l5 l6 : L4} {q : Bool} {a b c d e f g h : Int} : sat (f113_ends w l5 l6 q a b c d e f g h) fun _ => True := by
 obtain ⟨w1, w2, w3, w4⟩ := w
 unfold f113_ends
 refine i_call (has_t (by decide) (by decide)) fun q _ => i_cond (fun _ => i_cond (fun _ => any _) fun _ => ?_) fun _ => ?_
 · refine i_sbind (i_grdP (by decide) (sat_mono (ends4_t _ 0 (by decide) (by decide)) fun o _ => ?_))
   rcases o with o | o
   · trivial
   · exact any _
 · refine i_sbind (i_grdP (by decide) (sat_mono (ends2_t _ 0 (by decide) (by decide)) fun o _ => ?_))
   rcases o with o | o
   · trivial
   · exact any _
theorem row_t {l : L4} {v : Int} (hl : l.length = 256) (h0 : 0 ≤ v) (h1 : v < 256) : ∀ (g : Nat) (i a b c d : Int), 0 ≤ i → i + g = 4 → sat (f86_build_L146 l v g i a b c d) fun o => match o with | .inl _ => False | .inr _ => True := by
 intro g
 induction g with
 | zero => intro i a b c d _ _; rw [f86_build_L146]; exact sat_mk trivial
 | succ g ih =>
  intro i a b c d hi hg
  rw [f86_build_L146]
  refine i_caseI hi (by simp; omega) fun m hm => ?_
  simp only [List.mem_cons, List.not_mem_nil, or_false] at hm
  rcases hm with rfl | rfl | rfl | rfl <;> exact i_grdP ⟨h0, h1⟩ (i_getN (by omega) fun ⟨x1, x2, x3, x4⟩ _ _ => ih (i + 1) _ _ _ _ (by omega) (by omega))
theorem rows_t {l : L4} {w1 w2 w3 w4 : Int} {k : Nat} (hl : l.length = 256) : ∀ (g : Nat) (v : Int) (M : List (N4 × Int)) (S : L4) (row : LI), 0 ≤ v → v + g = 256 → S.length ≤ 400 → k ≤ S.length → row.length = 256 →
 sat (f86_build_L142 l w1 w2 w3 w4 g v M S row) fun o => match o with | .inl (.inl _) => True | .inl (.inr _) => False | .inr (_, S', row') => S'.length ≤ 400 ∧ k ≤ S'.length ∧ row'.length = 256 := by
 intro g
 induction g with
 | zero => intro v M S row _ _ h1 h2 h3; rw [f86_build_L142]; exact sat_mk ⟨h1, h2, h3⟩
 | succ g ih =>
  intro v M S row h0 hv h1 h2 h3
  rw [f86_build_L142]
  refine i_sbind (i_sbind (i_grdP (by decide) (sat_mono (row_t hl h0 (by omega) _ 0 _ _ _ _ (by decide) (by decide)) fun o ho => ?_)))
  rcases o with o | ⟨x1, x2, x3, x4⟩
  · exact ho.elim
  show sat (match mget M (x1, x2, x3, x4) with | none => _ | some v12502 => _) _
  cases hm : mget M (x1, x2, x3, x4) with
  | none =>
   simp only
   refine i_grdP rfl (i_grdP (by simp; omega) (i_cond (fun _ => i_lft (i_lft (i_lft (i_lft (sat_mk trivial))))) fun hh => ?_))
   have hh := of_decide_eq_false hh
   simp only [List.length_cons, List.length_nil] at hh
   refine i_grdP ⟨h0, by omega⟩ (i_getN (by omega) fun _ _ _ => sat_mk ?_)
   exact ih (v + 1) _ _ _ (by omega) (by omega) (by simp; omega) (by simp; omega) (by rw [List.length_set]; exact h3)
  | some n =>
   simp only
   refine i_grdP ⟨h0, by omega⟩ (i_getN (by omega) fun _ _ _ => sat_mk ?_)
   exact ih (v + 1) _ _ _ (by omega) (by omega) h1 h2 (by rw [List.length_set]; exact h3)
theorem mach_t {l2 l3 l20 : L4} {a b c d e f g h : Int} (h3 : l3.length ≤ 256) (h20 : l20.length = 256) : ∀ (n : Nat) (M : List (N4 × Int)) (S : L4) (rows : List LI) (es : List Bool) (v : Int) (q : Bool), 0 ≤ v → v + n ≥ 401 → v ≤ S.length → S.length ≤ 400 → rows.length ≤ v → es.length ≤ v →
 sat (f86_build_L110 l2 l3 a b c d e f g h l20 n M S rows es v q) fun _ => True := by
 intro n
 induction n with
 | zero => intro M S rows es v q h0 hn hv hS hr he; exfalso; omega
 | succ n ih =>
  intro M S rows es v q h0 hn hv hS hr he
  rw [f86_build_L110]
  refine i_cond (fun hh => ?_) fun _ => any _
  have hh := of_decide_eq_true hh
  refine i_sbind (i_grdP ⟨h0, by omega⟩ (i_getN (by omega) fun ⟨w1, w2, w3, w4⟩ _ _ => ?_))
  refine i_call (beh_t h3) fun ⟨y1, y2, y3, y4⟩ _ => ?_
  refine i_sbind (i_grdP (by decide) (sat_mono (rows_t (k := S.length) h20 _ 0 M S _ (by decide) (by decide) hS (Nat.le_refl _) (by simp)) fun o ho => ?_))
  rcases o with o | ⟨M', S', row'⟩
  · rcases o with o | o
    · exact trivial
    · exact ho.elim
  · obtain ⟨p1, p2, p3⟩ := ho
    refine i_grdP p3 (i_grdP (by simp; omega) (i_grdP ⟨h0, by omega⟩ (i_getN (by omega) fun ⟨w1, w2, w3, w4⟩ _ _ => ?_)))
    refine i_call ends_t fun ⟨q1, q2⟩ _ => i_grdP (by simp; omega) (sat_mk ?_)
    rw [wrap_id (by omega) (by omega)]
    exact ih _ _ _ _ _ _ (by omega) (by omega) (by omega) p1 (by simp; omega) (by simp; omega)
theorem build_t (s : BA) {n : Nat} (hn : 1200 ≤ n) : sat (f86_build n s) fun _ => True := by
 unfold f86_build
 refine i_call (parse_t s hn) fun ⟨l2, l3, q4, v5, v6, v7, v8, v9, v10, v11, v12, v13⟩ hp => ?_
 refine i_cond (fun _ => any _) fun hh => ?_
 have hz : v13 = 0 := by simpa using hh
 obtain ⟨p1, p2, p3⟩ := hp.resolve_left fun h => h hz
 refine i_call (Q := fun _ => True) ⟨_, rfl, trivial⟩ fun ⟨x1, x2, x3, x4⟩ _ => i_grdP rfl ?_
 refine i_call (at_t p3) fun l20 h20 => ?_
 have p1' : l2.length = l3.length := p1
 have p3' : l2.length ≤ 256 := p3
 refine i_sbind (sat_mono (mach_t (by omega) h20 n _ _ _ _ 0 q4 (by decide) (by omega) (by simp) (by simp) (by simp) (by simp)) fun o _ => ?_)
 rcases o with o | o
 · trivial
 · exact any _
theorem check_t (s : BA) {n : Nat} (hn : 1200 ≤ n) : sat (f160_Check n s) fun _ => True := by
 unfold f160_Check
 exact i_call (build_t s hn) fun ⟨l2, l3, v4⟩ _ => any _
end Go.Clap
