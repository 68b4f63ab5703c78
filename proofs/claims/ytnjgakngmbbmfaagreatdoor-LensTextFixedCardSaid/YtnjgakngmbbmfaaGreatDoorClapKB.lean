/- The checks of the small code against the loaded functions. -/
import Derived.Test.YtnjgakngmbbmfaaGreatDoorClapK9
set_option linter.unusedVariables false
set_option linter.unusedSimpArgs false
set_option maxRecDepth 100000
namespace Go.Clap
open Go.IntKind (wrap)
theorem op_loop (w : BA) : ∀ (g : Nat) (i : Int), 0 ≤ i → i + g = 19 → sat (f1011a_1_L2 w g i) fun o => (∃ k, o = .inl (true, k) ∧ 0 ≤ k ∧ k < 19 ∧ f1019_word k = some w) ∨ o = .inr ()
 | 0, i, h0, h1 => sat_mk (.inr rfl)
 | g + 1, i, h0, h1 => by
  unfold f1011a_1_L2
  have hw : sat (f1019_word i) fun x => f1019_word i = some x := by
   have : sat (f1019_word i) fun _ => True := by
    unfold f1019_word
    exact i_getL h0 (by show i < 19; omega) fun u _ _ => sat_mk trivial
   obtain ⟨x, hx, _⟩ := this
   exact ⟨x, hx, hx⟩
  refine i_call hw fun x hx => i_cond (fun he => i_lft (sat_mk (.inl ⟨i, rfl, h0, by omega, ?_⟩))) fun _ => op_loop w g (i + 1) (by omega) (by omega)
  rw [← k_eq he]; exact hx
variable {s : BA} {v : Int} {q : Bool}
theorem op_s {a b c d e f g : Int} {x y z : BA} (h : At s v) : sat (f1012d_take s v q 0 x y a b c d e f z) fun r => Fw s v r.2.1 ∧ (r.2.2.1 = true → q = true ∧ ∃ w, RdW s v [BL w] r.2.1 ∧ f1019_word r.2.2.2 = some w) := by
 unfold f1012d_take
 have no : ∀ n, sat (some ((⟨#[]⟩ : BA), v, false, n)) fun r : BA × Int × Bool × Int => Fw s v r.2.1 ∧ (r.2.2.1 = true → q = true ∧ ∃ w, RdW s v [BL w] r.2.1 ∧ f1019_word r.2.2.2 = some w) := fun n => sat_mk ⟨h.fw, fun h => by cases h⟩
 refine i_cond (fun hq => i_call (h.peek true) fun r hr => ?_) fun _ => no _
 obtain ⟨w, t⟩ := r
 refine i_cond (fun ht => ?_) fun _ => no _
 have hw : Wrd s v w := hr ht
 refine i_call (Q := fun b : Bool × Int => b.1 = true → f1019_word b.2 = some w) ?_ fun b hb => ?_
 · unfold f1011a_1
   refine i_sbind (i_grdP (by decide) (sat_mono (op_loop w 19 0 (by decide) rfl) ?_))
   rintro o (⟨k, rfl, _, _, h⟩ | rfl)
   · exact fun _ => h
   · exact sat_mk fun h => by cases h
 · obtain ⟨b, n⟩ := b
   refine i_cond (fun hb' => ?_) fun _ => no _
   rw [h.next hw]
   exact sat_mk ⟨h.nfw hw, fun _ => ⟨hq, w, hw.rd, hb hb'⟩⟩
theorem names_s {n : Nat} (hn : 4010 ≤ n) {op : Int} : ∀ (g : Nat) (l : LB) (v : Int) (q : Bool), At s v → s.size + 3 ≤ g + v ∨ (q = false ∧ 1 ≤ g) → (l.length : Int) ≤ v →
 sat (f1093_rest_L2 n s op g l v q) fun o => ∃ v' q' l', o = .inr (v', q', true, l') ∧ Fw s v v' ∧ (q' = true → q = true ∧ ∃ ns ws, l' = l ++ ns ∧ RdW s v (ws ++ [BL wShut]) v' ∧ PN op ns ws)
 | 0, l, v, q, h, hg, hl => by
  exfalso
  have := h.hi
  omega
 | g + 1, l, v, q, h, hg, hl => by
  have hsz := h.sz
  have hhi := h.hi
  have hlo := h.lo
  unfold f1093_rest_L2
  refine i_cond (fun hq => i_call (is_s wShut h) fun r hr => ?_) fun hq => sat_mk ⟨v, false, l, rfl, h.fw, fun h => by cases h⟩
  subst hq
  obtain ⟨b, v1, q1⟩ := r
  obtain ⟨h1, h2, h3, h4⟩ := hr
  have h2 : q1 = true := h2
  subst h2
  refine i_cond (fun hb => ?_) fun hb => ?_
  · obtain ⟨h5, h6⟩ := h3 hb
    exact sat_mk ⟨v1, true, l, rfl, h1, fun _ => ⟨rfl, [], [], by simp, h6, pn_nil _⟩⟩
  · have h4 : v1 = v := h4 hb
    subst h4
    have nx : ∀ (a : BA) (v2 : Int) (q2 : Bool), Fw s v1 v2 → (q2 = true → ∃ w, RdW s v1 [BL w] v2 ∧ (op = 9 → f1006_quote a = some w) ∧ (op ≠ 9 → a = w)) →
     sat (grdP (l.length + ([a] : LB).length ≤ 68719476736) (f1093_rest_L2 n s op g (l ++ ([a] : LB)) v2 q2)) fun o => ∃ v' q' l', o = .inr (v', q', true, l') ∧ Fw s v1 v' ∧ (q' = true → true = true ∧ ∃ ns ws, l' = l ++ ns ∧ RdW s v1 (ws ++ [BL wShut]) v' ∧ PN op ns ws) := by
     intro a v2 q2 h5 h6
     refine i_grdP (by show l.length + 1 ≤ _; omega) ?_
     have hv2 : v1 ≤ v2 := h5.1
     cases q2 with
     | false =>
      have hgg : 1 ≤ g := by
       rcases hg with hg | ⟨hg, _⟩
       · omega
       · cases hg
      obtain ⟨g, rfl⟩ : ∃ m, g = m + 1 := ⟨g - 1, by omega⟩
      unfold f1093_rest_L2
      exact sat_mk ⟨v2, false, _, rfl, h5, fun h => by cases h⟩
     | true =>
      obtain ⟨w, h7, h8⟩ := h6 rfl
      have hlt : v1 < v2 := h7.lt (by simp)
      refine sat_mono (names_s hn g _ v2 true (h.on h5) (.inl (by rcases hg with hg | ⟨hg, _⟩; omega; cases hg)) (by rw [List.length_append]; show ((l.length + 1 : Nat) : Int) ≤ v2; omega)) ?_
      rintro o ⟨v', q', l', rfl, h11, h12⟩
      refine ⟨v', q', l', rfl, h5.trans h11, fun hq' => ?_⟩
      obtain ⟨_, ns, us, rfl, h13, h14⟩ := h12 hq'
      refine ⟨rfl, a :: ns, [BL w] ++ us, by simp, ?_, pn_cons h8 h14⟩
      have := h7.trans h13
      rwa [← List.append_assoc] at this
    refine i_cond (fun h9 => ?_) fun h9 => ?_
    · have h9 : op = 9 := by simpa using h9
      refine i_call (quoted_s hn h) fun r hr => ?_
      obtain ⟨a, v2, q2⟩ := r
      refine nx a v2 q2 hr.1 fun hq2 => ?_
      obtain ⟨_, w, h5, h6⟩ := hr.2 hq2
      exact ⟨w, h5, fun _ => h6, fun hh => absurd h9 hh⟩
    · have h9 : op ≠ 9 := by simpa using h9
      refine i_call (any_s h) fun r hr => ?_
      obtain ⟨a, v2, q2⟩ := r
      refine nx a v2 q2 hr.1 fun hq2 => ?_
      obtain ⟨_, h5, h6⟩ := hr.2 hq2
      exact ⟨a, h5, fun hh => absurd hh h9, fun _ => rfl⟩
theorem pairs_s {n : Nat} (hV : VS 41 n) : ∀ (g : Nat) (l : LW) (v : Int) (q : Bool), At s v → s.size + 3 ≤ g + v ∨ (q = false ∧ 1 ≤ g) → (l.length : Int) ≤ v →
 sat (f1093_rest_L4 n s g l v q) fun o => ∃ v' q' l', o = .inr (v', q', true, l') ∧ Fw s v v' ∧ (q' = true → q = true ∧ ∃ ps ws, l' = l ++ ps ∧ RdW s v (ws ++ [BL wShut]) v' ∧ PPw 42 ps ws ∧ ∀ p ∈ ps, VD 42 p.1 ∧ VD 42 p.2)
 | 0, l, v, q, h, hg, hl => by
  exfalso
  have := h.hi
  omega
 | g + 1, l, v, q, h, hg, hl => by
  have hsz := h.sz
  have hhi := h.hi
  have hlo := h.lo
  unfold f1093_rest_L4
  refine i_cond (fun hq => i_call (is_s wShut h) fun r hr => ?_) fun hq => sat_mk ⟨v, false, l, rfl, h.fw, fun h => by cases h⟩
  subst hq
  obtain ⟨b, v1, q1⟩ := r
  obtain ⟨h1, h2, h3, h4⟩ := hr
  have h2 : q1 = true := h2
  subst h2
  refine i_cond (fun hb => ?_) fun hb => ?_
  · obtain ⟨h5, h6⟩ := h3 hb
    exact sat_mk ⟨v1, true, l, rfl, h1, fun _ => ⟨rfl, [], [], by simp, h6, pp_nil _, fun p hp => by cases hp⟩⟩
  · have h4 : v1 = v := h4 hb
    subst h4
    refine i_call (hV 0 s v1 true rfl h) fun r hr => ?_
    obtain ⟨⟨k1, n1, s1, f1⟩, v2, q2⟩ := r
    obtain ⟨h5, h6⟩ := hr
    have hA2 : At s v2 := h.on h5
    refine i_call (hV 0 s v2 q2 rfl hA2) fun r hr => ?_
    obtain ⟨⟨k2, n2, s2, f2⟩, v3, q3⟩ := r
    obtain ⟨h7, h8⟩ := hr
    have h57 : Fw s v1 v3 := h5.trans h7
    refine i_grdP (by show l.length + 1 ≤ _; omega) ?_
    cases q3 with
    | false =>
     have hgg : 1 ≤ g := by
      rcases hg with hg | ⟨hg, _⟩
      · have := h57.1; omega
      · cases hg
     obtain ⟨g, rfl⟩ : ∃ m, g = m + 1 := ⟨g - 1, by omega⟩
     unfold f1093_rest_L4
     exact sat_mk ⟨v3, false, _, rfl, h57, fun h => by cases h⟩
    | true =>
     obtain ⟨h9, b, h10, h11, h12, h13⟩ := h8 rfl
     obtain ⟨_, a, h14, h15, h16, h17⟩ := h6 h9
     have hrd := h15.trans h11
     have hlt : v1 < v3 := hrd.lt (by simp [h14])
     refine sat_mono (pairs_s hV g _ v3 true (h.on h57) (.inl (by rcases hg with hg | ⟨hg, _⟩; omega; cases hg)) (by rw [List.length_append]; show ((l.length + 1 : Nat) : Int) ≤ v3; omega)) ?_
     rintro o ⟨v', q', l', rfl, h18, h19⟩
     refine ⟨v', q', l', rfl, h57.trans h18, fun hq' => ?_⟩
     obtain ⟨_, ps, us, rfl, h20, h21, h22⟩ := h19 hq'
     refine ⟨rfl, (V.mk k1 n1 s1 f1, V.mk k2 n2 s2 f2) :: ps, (a ++ b) ++ us, by simp, ?_, pp_cons h16 h12 h21, fun p hp => ?_⟩
     · have := hrd.trans h20
       rwa [← List.append_assoc] at this
     · rcases List.mem_cons.1 hp with rfl | hp
       · exact ⟨h17, h13⟩
       · exact h22 p hp
end Go.Clap

set_option linter.unusedVariables false
set_option linter.unusedSimpArgs false
set_option maxRecDepth 100000
namespace Go.Clap
open Go.IntKind (wrap)
def LnD : Nat → Ln → Prop
 | 0, _ => False
 | k + 1, .mk _ _ _ _ _ _ _ _ x prs ks => VD 42 x ∧ (∀ p ∈ prs, VD 42 p.1 ∧ VD 42 p.2) ∧ ∀ y ∈ ks, LnD k y
theorem PL.mono {k m : Nat} (h : k ≤ m) {x : Ln} {ws : Ws} (hx : PL k x ws) : PL m x ws := fun n hn => hx n (by omega)
theorem PK.mono {k m : Nat} (h : k ≤ m) {x : List Ln} {ws : Ws} (hx : PK k x ws) : PK m x ws := fun n hn => hx n (by omega)
theorem PPw.mono {k m : Nat} (h : k ≤ m) {x : LW} {ws : Ws} (hx : PPw k x ws) : PPw m x ws := fun n hn => hx n (by omega)
def P0 (k : Nat) (x : Ln) (ws : Ws) : Prop := ∃ w us, ws = w :: us ∧ w ≠ [] ∧ ∀ n, k ≤ n → (px ws).length ≤ 90000 → f1018_lens n x = some (nm w ++ px us)
def LS (e n : Nat) : Prop := ∀ (d : Int) (s : BA) (v : Int) (q : Bool), d + e = 41 → At s v →
 sat (f1010_lens n d s v q) fun r => Fw s v r.2.1 ∧ (r.2.2 = true → q = true ∧ ∃ ws, ws ≠ [] ∧ RdW s v ws r.2.1 ∧ PL (44 + 2 * e) r.1 ws ∧ P0 (44 + 2 * e) r.1 ws ∧ LnD (e + 1) r.1)
theorem kids_s {e n : Nat} (hL : LS e n) {d : Int} {s : BA} (hd0 : 0 ≤ d) (hd : d + (e + 1) = 41) {l63 : LB} {a b : Int} {c : BA} {f : FV} {pp : LW} : ∀ (g : Nat) (l : List Ln) (v : Int) (q : Bool), At s v → s.size + 3 ≤ g + v ∨ (q = false ∧ 1 ≤ g) → (l.length : Int) ≤ v →
 sat (f1093_rest_L5 (f1010_lens n) d s l63 a b c f pp g l v q) fun o => ∃ v' q' l', o = (v', q', l63, a, b, c, f, pp, l') ∧ Fw s v v' ∧ (q' = true → q = true ∧ ∃ ks ws, l' = l ++ ks ∧ RdW s v (ws ++ [BL wShut]) v' ∧ PK (44 + 2 * e) ks ws ∧ ∀ y ∈ ks, LnD (e + 1) y)
 | 0, l, v, q, h, hg, hl => by
  exfalso
  have := h.hi
  omega
 | g + 1, l, v, q, h, hg, hl => by
  have hsz := h.sz
  have hhi := h.hi
  have hlo := h.lo
  have ew : wrap .i64 (d + 1) = d + 1 := wrap64 (by omega) (by omega)
  unfold f1093_rest_L5
  rw [ew]
  refine i_cond (fun hq => i_call (is_s wShut h) fun r hr => ?_) fun hq => sat_mk ⟨v, false, l, rfl, h.fw, fun h => by cases h⟩
  subst hq
  obtain ⟨b', v1, q1⟩ := r
  obtain ⟨h1, h2, h3, h4⟩ := hr
  have h2 : q1 = true := h2
  subst h2
  refine i_cond (fun hb => ?_) fun hb => ?_
  · obtain ⟨h5, h6⟩ := h3 hb
    exact sat_mk ⟨v1, true, l, rfl, h1, fun _ => ⟨rfl, [], [], by simp, h6, pk_nil _, fun p hp => by cases hp⟩⟩
  · have h4 : v1 = v := h4 hb
    subst h4
    refine i_call (hL (d + 1) s v1 true (by omega) h) fun r hr => ?_
    obtain ⟨⟨op, nm, to, ns, N, lo, hi, sep, ⟨k1, n1, s1, f1⟩, prs, ks⟩, v2, q2⟩ := r
    obtain ⟨h5, h6⟩ := hr
    refine i_grdP (by show l.length + 1 ≤ _; omega) (i_grdP ⟨by omega, by show ((l.length : Nat) : Int) < ((l.length + 1 : Nat) : Int); omega⟩ (i_getN (by rw [List.length_append]; show 0 + ((l.length : Nat) : Int).toNat < l.length + 1; omega) fun u _ _ => ?_))
    obtain ⟨op0, nm0, to0, ns0, N0, lo0, hi0, sep0, ⟨k0, n0, s0, f0⟩, prs0, ks0⟩ := u
    have es : ∀ z x : Ln, ((l ++ ([z] : List Ln)).set (0 + ((l.length : Nat) : Int).toNat) x) = l ++ [x] := by
     intro z x
     have : 0 + ((l.length : Nat) : Int).toNat = l.length := by omega
     rw [this, List.set_append_right _ _ (Nat.le_refl _), Nat.sub_self]
     rfl
    dsimp only
    rw [es]
    have hv2 : v1 ≤ v2 := h5.1
    cases q2 with
    | false =>
     have hgg : 1 ≤ g := by
      rcases hg with hg | ⟨hg, _⟩
      · omega
      · cases hg
     obtain ⟨g, rfl⟩ : ∃ m, g = m + 1 := ⟨g - 1, by omega⟩
     unfold f1093_rest_L5
     exact sat_mk ⟨v2, false, _, rfl, h5, fun h => by cases h⟩
    | true =>
     obtain ⟨_, ws, h7, h8, h9, _, h10⟩ := h6 rfl
     have hlt : v1 < v2 := h8.lt h7
     refine sat_mono (kids_s hL hd0 hd g _ v2 true (h.on h5) (.inl (by rcases hg with hg | ⟨hg, _⟩; omega; cases hg)) (by rw [List.length_append]; show ((l.length + 1 : Nat) : Int) ≤ v2; omega)) ?_
     rintro o ⟨v', q', l', rfl, h11, h12⟩
     refine ⟨v', q', l', rfl, h5.trans h11, fun hq' => ?_⟩
     obtain ⟨_, kk, us, rfl, h13, h14, h15⟩ := h12 hq'
     refine ⟨rfl, _ :: kk, ws ++ us, by simp, ?_, pk_cons h9 h14, fun x hx => ?_⟩
     · have := h8.trans h13
       rwa [← List.append_assoc] at this
     · rcases List.mem_cons.1 hx with rfl | hx
       · exact h10
       · exact h15 x hx
def RS (e : Nat) (s : BA) (v : Int) (q : Bool) (op : Int) (q3 q7 q8 : Bool) (v9 : Int) (r : Int × Bool × LB × Int × Int × BA × FV × LW × List Ln) : Prop :=
 Fw s v r.1 ∧ (r.2.1 = true → q = true ∧ ∃ wN wV wP wK : Ws, RdW s v (((opar q3 wN ++ owd q7 wV) ++ opar q8 wP) ++ opar (v9 != 0) wK) r.1 ∧
  (q3 = true → PN op r.2.2.1 wN) ∧ (q7 = true → PV 42 (.mk r.2.2.2.1 r.2.2.2.2.1 r.2.2.2.2.2.1 r.2.2.2.2.2.2.1) wV) ∧ (q8 = true → PPw 42 r.2.2.2.2.2.2.2.1 wP) ∧ ((v9 != 0) = true → PK (44 + 2 * e) r.2.2.2.2.2.2.2.2 wK) ∧
  VD 42 (.mk r.2.2.2.1 r.2.2.2.2.1 r.2.2.2.2.2.1 r.2.2.2.2.2.2.1) ∧ (∀ p ∈ r.2.2.2.2.2.2.2.1, VD 42 p.1 ∧ VD 42 p.2) ∧ ∀ y ∈ r.2.2.2.2.2.2.2.2, LnD (e + 1) y)
theorem rest_s {e n : Nat} (hn : 4200 ≤ n) (hL : LS e n) {d : Int} {s : BA} {v : Int} {q : Bool} (hd0 : 0 ≤ d) (hd : d + (e + 1) = 41) (h : At s v) {q1 q2 q3 q4 q5 q6 q7 q8 : Bool} {v9 op N lo hi sep : Int} {nm to : BA} :
 sat (f1093_rest (n + 1) q1 q2 q3 q4 q5 q6 q7 q8 v9 d s v q op nm to N lo hi sep 0 0 ⟨#[]⟩) (RS e s v q op q3 q7 q8 v9) := by
 have hV : VS 41 n := value_s 41 n (by omega) (by omega)
 have hsz := h.sz
 show sat (b1093_rest n (f1010_lens n) q1 q2 q3 q4 q5 q6 q7 q8 v9 d s v q op nm to N lo hi sep 0 0 ⟨#[]⟩) _
 unfold b1093_rest
 dsimp only
 refine i_any' (fun p : Int × Bool × Bool × LB => Fw s v p.1 ∧ (p.2.1 = true → q = true ∧ ∃ wN, RdW s v (opar q3 wN) p.1 ∧ (q3 = true → PN op p.2.2.2 wN))) ?_ fun p hp => ?_
 · refine i_cond (fun hq3 => ?_) fun hq3 => sat_mk ⟨_, rfl, h.fw, fun hq => ⟨hq, [], by rw [hq3]; exact RdW.refl h.hi, fun hh => by rw [hq3] at hh; cases hh⟩⟩
   refine i_call (must_s wOpen h) fun r hr => ?_
   obtain ⟨v1, q1'⟩ := r
   obtain ⟨h1, h2⟩ := hr
   have hA1 : At s v1 := h.on h1
   refine sat_mono (names_s (n := n) (by omega) (op := op) n [] v1 q1' hA1 (.inl (by have := hA1.lo; omega)) (by have := hA1.lo; simpa using this)) ?_
   rintro o ⟨v', q', l', rfl, h3, h4⟩
   refine ⟨_, rfl, h1.trans h3, fun hq' => ?_⟩
   obtain ⟨h5, ns, ws, h6, h7, h8⟩ := h4 hq'
   have h6 : l' = ns := by simpa using h6
   subst h6
   obtain ⟨hq, h9⟩ := h2 h5
   refine ⟨hq, ws, ?_, fun _ => h8⟩
   have := h9.trans h7
   rw [hq3]
   simpa [opar] using this
 obtain ⟨v1, qq1, ok1, ns⟩ := p
 obtain ⟨h1, h2⟩ := hp
 have hA1 : At s v1 := h.on h1
 refine i_any' (fun p : Int × Bool × Int × Int × BA × FV × Bool => Fw s v1 p.1 ∧ (p.2.1 = true → qq1 = true ∧ ∃ wV, RdW s v1 (owd q7 wV) p.1 ∧ (q7 = true → PV 42 (.mk p.2.2.1 p.2.2.2.1 p.2.2.2.2.1 p.2.2.2.2.2.1) wV) ∧ VD 42 (.mk p.2.2.1 p.2.2.2.1 p.2.2.2.2.1 p.2.2.2.2.2.1))) ?_ fun p hp => ?_
 · refine i_cond (fun hq7 => ?_) fun hq7 => sat_mk ⟨_, rfl, hA1.fw, fun hq => ⟨hq, [], by rw [hq7]; exact RdW.refl hA1.hi, (fun hh => by rw [hq7] at hh; cases hh), fun x hx => by cases hx⟩⟩
   refine i_call (hV 0 s v1 qq1 rfl hA1) fun r hr => ?_
   obtain ⟨⟨k1, n1, s1, f1⟩, v2, q2'⟩ := r
   obtain ⟨h3, h4⟩ := hr
   refine sat_mk ⟨_, rfl, h3, fun hq' => ?_⟩
   obtain ⟨h5, ws, h6, h7, h8, h9⟩ := h4 hq'
   exact ⟨h5, ws, by rw [hq7]; exact h7, fun _ => h8, h9⟩
 obtain ⟨v2, qq2, k1, n1, s1, f1, ok2⟩ := p
 obtain ⟨h3, h4⟩ := hp
 have hA2 : At s v2 := hA1.on h3
 refine i_any' (fun p : Int × Bool × Bool × LW => Fw s v2 p.1 ∧ (p.2.1 = true → qq2 = true ∧ ∃ wP, RdW s v2 (opar q8 wP) p.1 ∧ (q8 = true → PPw 42 p.2.2.2 wP) ∧ ∀ x ∈ p.2.2.2, VD 42 x.1 ∧ VD 42 x.2)) ?_ fun p hp => ?_
 · refine i_cond (fun hq8 => ?_) fun hq8 => sat_mk ⟨_, rfl, hA2.fw, fun hq => ⟨hq, [], by rw [hq8]; exact RdW.refl hA2.hi, (fun hh => by rw [hq8] at hh; cases hh), fun x hx => by cases hx⟩⟩
   refine i_call (must_s wOpen hA2) fun r hr => ?_
   obtain ⟨v3, q3'⟩ := r
   obtain ⟨h5, h6⟩ := hr
   have hA3 : At s v3 := hA2.on h5
   refine sat_mono (pairs_s hV n [] v3 q3' hA3 (.inl (by have := hA3.lo; omega)) (by have := hA3.lo; simpa using this)) ?_
   rintro o ⟨v', q', l', rfl, h7, h8⟩
   refine ⟨_, rfl, h5.trans h7, fun hq' => ?_⟩
   obtain ⟨h9, ps, ws, h10, h11, h12, h13⟩ := h8 hq'
   have h10 : l' = ps := by simpa using h10
   subst h10
   obtain ⟨hq, h14⟩ := h6 h9
   refine ⟨hq, ws, ?_, fun _ => h12, h13⟩
   have := h14.trans h11
   rw [hq8]
   simpa [opar] using this
 obtain ⟨v3, qq3, ok3, prs⟩ := p
 obtain ⟨h5, h6⟩ := hp
 have hA3 : At s v3 := hA2.on h5
 refine i_cond (fun h9 => ?_) fun h9 => ?_
 · refine i_call (must_s wOpen hA3) fun r hr => ?_
   obtain ⟨v4, q4'⟩ := r
   obtain ⟨h7, h8⟩ := hr
   have hA4 : At s v4 := hA3.on h7
   refine sat_mono (kids_s hL hd0 hd n [] v4 q4' hA4 (.inl (by have := hA4.lo; omega)) (by have := hA4.lo; simpa using this)) ?_
   rintro o ⟨v', q', l', rfl, h10, h11⟩
   refine ⟨h1.trans (h3.trans (h5.trans (h7.trans h10))), fun hq' => ?_⟩
   obtain ⟨h12, ks, wK, h13, h14, h15, h16⟩ := h11 hq'
   have h13 : l' = ks := by simpa using h13
   subst h13
   obtain ⟨h17, h18⟩ := h8 h12
   obtain ⟨h19, wP, h20, h21, h22⟩ := h6 h17
   obtain ⟨h23, wV, h24, h25, h26⟩ := h4 h19
   obtain ⟨hq, wN, h27, h28⟩ := h2 h23
   refine ⟨hq, wN, wV, wP, wK, ?_, h28, h25, h21, fun _ => h15, h26, h22, h16⟩
   have := (((h27.trans h24).trans h20).trans (h18.trans h14))
   rw [h9]
   simpa [opar] using this
 · refine sat_mk ⟨h1.trans (h3.trans h5), fun hq' => ?_⟩
   obtain ⟨h19, wP, h20, h21, h22⟩ := h6 hq'
   obtain ⟨h23, wV, h24, h25, h26⟩ := h4 h19
   obtain ⟨hq, wN, h27, h28⟩ := h2 h23
   refine ⟨hq, wN, wV, wP, [], ?_, h28, h25, h21, (fun hh => by rw [h9] at hh; cases hh), h26, h22, fun y hy => by cases hy⟩
   have := ((h27.trans h24).trans h20)
   rw [h9]
   simpa [opar] using this
end Go.Clap
