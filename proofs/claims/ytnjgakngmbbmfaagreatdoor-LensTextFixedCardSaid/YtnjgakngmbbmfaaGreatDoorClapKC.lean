/- The checks of the small code against the loaded functions. -/
import Derived.Test.YtnjgakngmbbmfaaGreatDoorClapKB
set_option linter.unusedVariables false
set_option linter.unusedSimpArgs false
set_option maxRecDepth 100000
namespace Go.Clap
open Go.IntKind (wrap)
theorem word_ne {k : Int} {w : BA} (h : f1019_word k = some w) : BL w ≠ [] := by
 unfold f1019_word getL at h
 dsimp only at h
 split at h
 · split at h
   · rename_i u hu
     cases h
     have := List.mem_of_getElem? hu
     simp only [List.mem_cons, List.not_mem_nil, or_false] at this
     rcases this with rfl | rfl | rfl | rfl | rfl | rfl | rfl | rfl | rfl | rfl | rfl | rfl | rfl | rfl | rfl | rfl | rfl | rfl | rfl <;> decide
   · cases h
 · cases h
theorem put0 (w : BA) (h : w.size ≤ 90000) : f1005_put [w] = some (nm (BL w)) := by
 show f1005_put_L1 [w] 0 [] = _
 show cond (decide ((((([] : LI).length : Nat) : Int)) > 0)) _ (grdP (([] : LI).length + (bytesJ w).length ≤ 68719476736) (f1005_put_L1 [] 1 ([] ++ bytesJ w))) = _
 rw [show decide ((((([] : LI).length : Nat) : Int)) > 0) = false from rfl, cond_false]
 unfold grdP
 rw [if_pos (by rw [bytesJ_BL, nm_len]; show 0 + _ ≤ _; omega)]
 rfl
theorem lens_p {m : Nat} {op : Int} {w nm' to : BA} {ns : LB} {n lo hi sep : Int} {x : V} {prs : LW} {ks : List Ln} {q1 q2 q3 q4 q5 q6 q7 q8 : Bool} {v9 : Int} {wn wl wh ws : BA} {wN wV wP wK : Ws}
 (hw : f1019_word op = some w) (ht : f144_table op = some (q1, q2, q3, q4, q5, q6, q7, q8, v9))
 (h4 : q4 = true → f1022_Itoa n = some wn) (h5 : q5 = true → f1022_Itoa lo = some wl ∧ f1022_Itoa hi = some wh) (h6 : q6 = true → f1022_Itoa (wrap .i64 sep) = some ws)
 (g1 : q3 = true → PN op ns wN) (g2 : q7 = true → PV m x wV) (g3 : q8 = true → PPw m prs wP) (g4 : (v9 != 0) = true → PK m ks wK) {W : Ws}
 (hW : W = ((((owd q1 [BL (nmw nm')] ++ owd q2 [BL to]) ++ owd q4 [BL wn]) ++ owd q5 [BL wl, BL wh]) ++ owd q6 [BL ws]) ++ (((opar q3 wN ++ owd q7 wV) ++ opar q8 wP) ++ opar (v9 != 0) wK)) :
 PL (m + 2) (.mk op nm' to ns n lo hi sep x prs ks) (BL w :: W) ∧ P0 (m + 2) (.mk op nm' to ns n lo hi sep x prs ks) (BL w :: W) := by
 have tl : ∀ N, m ≤ N → ∀ l : LI, l ≠ [] → l.length + (px W).length ≤ 100000 → ∀ k9 n10 s11 f12, x = .mk k9 n10 s11 f12 → tailP (f1103_rest (N + 1)) op nm' to ns n lo hi sep k9 n10 s11 f12 prs ks q1 q2 q3 q4 q5 q6 q7 q8 v9 l = some (l ++ px W) := by
  intro N hN l hl hb k9 n10 s11 f12 hx
  subst hx
  subst hW
  exact tail_p h4 h5 h6 (fun l hl hb => rest_p hN g1 g2 g3 g4 hl hb) hl hb
 obtain ⟨k9, n10, s11, f12⟩ := x
 refine ⟨fun n' hn l hl hb => ?_, BL w, W, rfl, word_ne hw, fun n' hn hb => ?_⟩
 · obtain ⟨N, rfl⟩ : ∃ N, n' = N + 1 + 1 := ⟨n' - 2, by omega⟩
   have e : px (BL w :: W) = px [BL w] ++ px W := px_append [BL w] W
   rw [e, List.length_append] at hb
   rw [lens_a, hw]
   show ((f1005a_put ([w] : LB) l).bind fun l => (f144_table op).bind fun (q18, q19, q20, q21, q22, q23, q24, q25, v26) => tailP (f1103_rest (N + 1)) op nm' to ns n lo hi sep k9 n10 s11 f12 prs ks q18 q19 q20 q21 q22 q23 q24 q25 v26 l) = _
   rw [put1 _ hl (by omega)]
   show ((f144_table op).bind fun (q18, q19, q20, q21, q22, q23, q24, q25, v26) => tailP (f1103_rest (N + 1)) op nm' to ns n lo hi sep k9 n10 s11 f12 prs ks q18 q19 q20 q21 q22 q23 q24 q25 v26 (l ++ px [BL w])) = _
   rw [ht]
   show tailP (f1103_rest (N + 1)) op nm' to ns n lo hi sep k9 n10 s11 f12 prs ks q1 q2 q3 q4 q5 q6 q7 q8 v9 (l ++ px [BL w]) = _
   rw [tl N (by omega) _ (px_ne (w := BL w) l hl) (by rw [List.length_append]; omega) _ _ _ _ rfl, e, List.append_assoc]
 · obtain ⟨N, rfl⟩ : ∃ N, n' = N + 1 := ⟨n' - 1, by omega⟩
   have e : px (BL w :: W) = px [BL w] ++ px W := px_append [BL w] W
   rw [e, List.length_append, px_one, List.length_cons, nm_len] at hb
   have hne : nm (BL w) ≠ [] := by
    intro h
    exact word_ne hw (List.map_eq_nil_iff.1 h)
   rw [lens_0, hw]
   show ((f1005_put ([w] : LB)).bind fun l => (f144_table op).bind fun (q18, q19, q20, q21, q22, q23, q24, q25, v26) => tailP (f1103_rest (N + 1)) op nm' to ns n lo hi sep k9 n10 s11 f12 prs ks q18 q19 q20 q21 q22 q23 q24 q25 v26 l) = _
   rw [put0 _ (by omega)]
   show ((f144_table op).bind fun (q18, q19, q20, q21, q22, q23, q24, q25, v26) => tailP (f1103_rest (N + 1)) op nm' to ns n lo hi sep k9 n10 s11 f12 prs ks q18 q19 q20 q21 q22 q23 q24 q25 v26 (nm (BL w))) = _
   rw [ht]
   exact tl N (by omega) _ hne (by rw [nm_len]; omega) _ _ _ _ rfl
theorem table_s (k : Int) : ∃ t, f144_table k = some t := by
 have : sat (f144_table k) fun _ => True := by
  unfold f144_table
  repeat' first
   | exact sat_mk trivial
   | (refine i_cond (fun _ => ?_) (fun _ => ?_))
   | (refine i_any' (fun _ => True) ?_ (fun _ _ => ?_))
   | exact sat_mk ⟨_, rfl, trivial⟩
 obtain ⟨t, ht, _⟩ := this
 exact ⟨t, ht⟩
theorem lens_s : ∀ (e n : Nat), 4300 + 2 * e ≤ n → e ≤ 41 → LS e n
 | 0, n, hn, he, d, s, v, q, hd, h => by
  obtain ⟨n, rfl⟩ : ∃ m, n = m + 1 := ⟨n - 1, by omega⟩
  show sat (b1010_lens (f1093_rest n) d s v q) _
  unfold b1010_lens
  exact i_cond (fun _ => sat_mk ⟨h.fw, fun h => by cases h⟩) fun hc => by have := of_decide_eq_false hc; omega
 | e + 1, n, hn, he, d, s, v, q, hd, h => by
  obtain ⟨n, rfl⟩ : ∃ m, n = m + 2 := ⟨n - 2, by omega⟩
  have hL := lens_s e n (by omega) (by omega)
  have hsz := h.sz
  have hd0 : 0 ≤ d := by omega
  have hd1 : d + (e + 1) = 41 := by omega
  show sat (b1010_lens (f1093_rest (n + 1)) d s v q) _
  unfold b1010_lens
  refine i_cond (fun _ => sat_mk ⟨h.fw, fun h => by cases h⟩) fun hc => i_call (op_s (g := 0) h) fun r hr => ?_
  obtain ⟨_, v7, q8, op⟩ := r
  obtain ⟨h1, h2⟩ := hr
  have hA1 : At s v7 := h.on h1
  obtain ⟨⟨t1, t2, t3, t4, t5, t6, t7, t8, t9⟩, ht⟩ := table_s op
  refine i_bind (sat_mk_of' ht ?_)
  dsimp only
  refine i_any' (fun p : Int × Bool × BA × Bool => Fw s v7 p.1 ∧ p.2.2.2 = t1 ∧ (p.2.1 = true → q8 = true ∧ RdW s v7 (owd t1 [BL (nmw p.2.2.1)]) p.1)) ?_ fun p hp => ?_
  · refine i_cond (fun ht1 => ?_) fun ht1 => sat_mk ⟨_, rfl, hA1.fw, ht1.symm, fun hq => ⟨hq, by rw [ht1]; exact RdW.refl hA1.hi⟩⟩
    refine i_call (any_s hA1) fun r hr => ?_
    obtain ⟨a, v2, q2⟩ := r
    obtain ⟨h3, h4⟩ := hr
    have plain : sat (some (.inr (v2, q2, a, true)) : Option (Sum (Ln × Int × Bool) (Int × Bool × BA × Bool))) fun o => ∃ x, o = .inr x ∧ Fw s v7 x.1 ∧ x.2.2.2 = t1 ∧ (x.2.1 = true → q8 = true ∧ RdW s v7 (owd t1 [BL (nmw x.2.2.1)]) x.1) := by
     refine sat_mk ⟨_, rfl, h3, ht1.symm, fun hq => ?_⟩
     obtain ⟨h5, h6, h7⟩ := h4 hq
     refine ⟨h5, ?_⟩
     rw [ht1]
     show RdW s v7 [BL (nmw a)] v2
     rw [show nmw a = a from if_neg h7]
     exact h6
    refine i_cond (fun hdash => i_cond (fun _ => ?_) fun _ => plain) fun _ => plain
    have ha : a = ⟨#[45]⟩ := k_eq hdash
    refine sat_mk ⟨_, rfl, h3, ht1.symm, fun hq => ?_⟩
    obtain ⟨h5, h6, h7⟩ := h4 hq
    refine ⟨h5, ?_⟩
    rw [ht1]
    show RdW s v7 [BL (nmw ⟨#[]⟩)] v2
    rw [ha] at h6
    exact h6
  obtain ⟨v24, q25, nm', q27⟩ := p
  obtain ⟨h3, hq27, h4⟩ := hp
  have hq27 : q27 = t1 := hq27
  subst hq27
  have hA2 : At s v24 := hA1.on h3
  refine i_any' (fun p : Int × Bool × BA × Bool => Fw s v24 p.1 ∧ p.2.2.2 = t2 ∧ (p.2.1 = true → q25 = true ∧ RdW s v24 (owd t2 [BL p.2.2.1]) p.1)) ?_ fun p hp => ?_
  · refine i_cond (fun ht1 => ?_) fun ht1 => sat_mk ⟨_, rfl, hA2.fw, ht1.symm, fun hq => ⟨hq, by rw [ht1]; exact RdW.refl hA2.hi⟩⟩
    refine i_call (any_s hA2) fun r hr => ?_
    obtain ⟨a, v2, q2⟩ := r
    obtain ⟨h5, h6⟩ := hr
    refine sat_mk ⟨_, rfl, h5, ht1.symm, fun hq => ?_⟩
    obtain ⟨h7, h8, _⟩ := h6 hq
    exact ⟨h7, by rw [ht1]; exact h8⟩
  obtain ⟨v37, q38, to, q40⟩ := p
  obtain ⟨h5, hq40, h6⟩ := hp
  have hq40 : q40 = t2 := hq40
  subst hq40
  have hA3 : At s v37 := hA2.on h5
  refine i_any' (fun p : Int × Bool × Int × Bool => Fw s v37 p.1 ∧ p.2.2.2 = t4 ∧ (p.2.1 = true → q38 = true ∧ ∃ w : BA, RdW s v37 (owd t4 [BL w]) p.1 ∧ (t4 = true → f1022_Itoa p.2.2.1 = some w))) ?_ fun p hp => ?_
  · refine i_cond (fun ht1 => ?_) fun ht1 => sat_mk ⟨_, rfl, hA3.fw, ht1.symm, fun hq => ⟨hq, ⟨#[]⟩, by rw [ht1]; exact RdW.refl hA3.hi, fun hh => by rw [ht1] at hh; cases hh⟩⟩
    refine i_call (number_s hA3) fun r hr => ?_
    obtain ⟨a, v2, q2⟩ := r
    obtain ⟨h7, _, h8⟩ := hr
    refine sat_mk ⟨_, rfl, h7, ht1.symm, fun hq => ?_⟩
    obtain ⟨h9, w, h10, h11⟩ := h8 hq
    exact ⟨h9, w, by rw [ht1]; exact h10, fun _ => h11⟩
  obtain ⟨v48, q49, N, q51⟩ := p
  obtain ⟨h7, hq51, h8⟩ := hp
  have hq51 : q51 = t4 := hq51
  subst hq51
  have hA4 : At s v48 := hA3.on h7
  refine i_any' (fun p : Int × Bool × Int × Int × Bool => Fw s v48 p.1 ∧ p.2.2.2.2 = t5 ∧ (p.2.1 = true → q49 = true ∧ ∃ a b : BA, RdW s v48 (owd t5 [BL a, BL b]) p.1 ∧ (t5 = true → f1022_Itoa p.2.2.1 = some a ∧ f1022_Itoa p.2.2.2.1 = some b))) ?_ fun p hp => ?_
  · refine i_cond (fun ht1 => ?_) fun ht1 => sat_mk ⟨_, rfl, hA4.fw, ht1.symm, fun hq => ⟨hq, ⟨#[]⟩, ⟨#[]⟩, by rw [ht1]; exact RdW.refl hA4.hi, fun hh => by rw [ht1] at hh; cases hh⟩⟩
    refine i_call (number_s hA4) fun r hr => ?_
    obtain ⟨a, v2, q2⟩ := r
    obtain ⟨h9, _, h10⟩ := hr
    have hA5 : At s v2 := hA4.on h9
    refine i_call (number_s hA5) fun r hr => ?_
    obtain ⟨b, v3, q3⟩ := r
    obtain ⟨h11, _, h12⟩ := hr
    refine sat_mk ⟨_, rfl, h9.trans h11, ht1.symm, fun hq => ?_⟩
    obtain ⟨h13, w2, h14, h15⟩ := h12 hq
    obtain ⟨h16, w1, h17, h18⟩ := h10 h13
    refine ⟨h16, w1, w2, ?_, fun _ => ⟨h18, h15⟩⟩
    rw [ht1]
    exact h17.trans h14
  obtain ⟨v62, q63, lo, hi, q66⟩ := p
  obtain ⟨h9, hq66, h10⟩ := hp
  have hq66 : q66 = t5 := hq66
  subst hq66
  have hA5 : At s v62 := hA4.on h9
  have fin : ∀ (sep vv : Int) (qq : Bool), Fw s v62 vv → (qq = true → q63 = true ∧ ∃ ws : BA, RdW s v62 (owd t6 [BL ws]) vv ∧ (t6 = true → f1022_Itoa (wrap .i64 sep) = some ws)) →
   sat ((f1093_rest (n + 1) q27 q40 t3 q51 q66 t6 t7 t8 t9 d s vv qq op nm' to N lo hi sep 0 0 ⟨#[]⟩).bind fun (v115, q116, l117, v118, v119, s120, l121, l122, l123) => some ((Ln.mk op nm' to l117 N lo hi sep (V.mk v118 v119 s120 l121) l122 l123), v115, q116)) fun r =>
    Fw s v r.2.1 ∧ (r.2.2 = true → q = true ∧ ∃ ws, ws ≠ [] ∧ RdW s v ws r.2.1 ∧ PL (44 + 2 * (e + 1)) r.1 ws ∧ P0 (44 + 2 * (e + 1)) r.1 ws ∧ LnD (e + 1 + 1) r.1) := by
   intro sep vv qq hf hqq
   refine i_call (rest_s (by omega) hL hd0 hd1 (hA5.on hf)) fun r hr => ?_
   obtain ⟨v', q', ns, k1, n1, s1, f1, prs, ks⟩ := r
   obtain ⟨g1, g2⟩ := hr
   refine sat_mk ⟨h1.trans (h3.trans (h5.trans (h7.trans (h9.trans (hf.trans g1))))), fun hq' => ?_⟩
   obtain ⟨g3, wN, wV, wP, wK, g4, g5, g6, g7, g8, g9, g10, g11⟩ := g2 hq'
   obtain ⟨g12, ws, g13, g14⟩ := hqq g3
   obtain ⟨g15, wl, wh, g16, g17⟩ := h10 g12
   obtain ⟨g18, wn, g19, g20⟩ := h8 g15
   obtain ⟨g21, g22⟩ := h6 g18
   obtain ⟨g23, g24⟩ := h4 g21
   obtain ⟨hq, w, g25, g26⟩ := h2 g23
   obtain ⟨p1, p2⟩ := lens_p (m := 44 + 2 * e) (nm' := nm') (to := to) g26 ht g20 g17 g14 g5 (fun hh => (g6 hh).mono (by omega)) (fun hh => (g7 hh).mono (by omega)) g8 rfl
   refine ⟨hq, _, ?_, ?_, p1, p2, g9, g10, g11⟩
   · exact List.cons_ne_nil _ _
   · have := ((((((g25.trans g24).trans g22).trans g19).trans g16).trans g13).trans g4)
     simpa [List.append_assoc] using this
  refine i_cond (fun ht6 => ?_) fun ht6 => ?_
  · subst ht6
    refine i_call (number_s hA5) fun r hr => ?_
    obtain ⟨b, v84, q85⟩ := r
    obtain ⟨k1, _, k2⟩ := hr
    have bad : ∀ x, Fw s v62 x → sat ((f1093_rest (n + 1) q27 q40 t3 q51 q66 true t7 t8 t9 d s x false op nm' to N lo hi (wrap .u8 b) 0 0 ⟨#[]⟩).bind fun (v115, q116, l117, v118, v119, s120, l121, l122, l123) => some ((Ln.mk op nm' to l117 N lo hi (wrap .u8 b) (V.mk v118 v119 s120 l121) l122 l123), v115, q116)) fun r =>
     Fw s v r.2.1 ∧ (r.2.2 = true → q = true ∧ ∃ ws, ws ≠ [] ∧ RdW s v ws r.2.1 ∧ PL (44 + 2 * (e + 1)) r.1 ws ∧ P0 (44 + 2 * (e + 1)) r.1 ws ∧ LnD (e + 1 + 1) r.1) := fun x hx => fin (wrap .u8 b) x false hx (fun h => by cases h)
    refine i_cond (fun hq85 => i_cond (fun _ => bad v62 hA5.fw) fun hb0 => i_cond (fun _ => bad v62 hA5.fw) fun hb1 => ?_) fun _ => bad v84 k1
    have hb0 : 0 ≤ b := by have := of_decide_eq_false hb0; omega
    have hb1 : b ≤ 255 := by have := of_decide_eq_false hb1; omega
    refine fin (wrap .u8 b) v84 true k1 fun _ => ?_
    obtain ⟨k3, ws, k4, k5⟩ := k2 hq85
    refine ⟨k3, ws, k4, fun _ => ?_⟩
    have e1 : wrap .u8 b = b := by rw [IntKind.wrap_u8]; omega
    rw [e1, wrap64 (by omega) (by omega)]
    exact k5
  · subst ht6
    exact fin 0 v62 q63 hA5.fw fun hq => ⟨hq, ⟨#[]⟩, RdW.refl hA5.hi, fun hh => by cases hh⟩
end Go.Clap
