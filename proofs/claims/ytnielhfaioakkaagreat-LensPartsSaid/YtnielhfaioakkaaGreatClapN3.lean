/- The checks of the small code against the loaded functions. -/
import Derived.Test.YtnielhfaioakkaaGreatClapN2
set_option linter.unusedVariables false
set_option linter.unusedSimpArgs false
set_option maxRecDepth 100000
namespace Go.Clap
def Bd : Nat → Int
 | 0 => 1
 | k + 1 => 200 * Bd k
theorem Bd_pos : ∀ k, 1 ≤ Bd k
 | 0 => Int.le_refl _
 | k + 1 => by have := Bd_pos k; unfold Bd; omega
theorem Bd_six : Bd 6 = 64000000000000 := rfl
theorem Bd_le {k : Nat} (h : k ≤ 6) : Bd k ≤ 64000000000000 := by
 have : k = 0 ∨ k = 1 ∨ k = 2 ∨ k = 3 ∨ k = 4 ∨ k = 5 ∨ k = 6 := by omega
 rcases this with rfl | rfl | rfl | rfl | rfl | rfl | rfl <;> decide
theorem l_size : ∀ (k : Nat), k ≤ 7 → ∀ l, GL k l → ∃ z : Int, (∀ n, k ≤ n → f94 n l = some z) ∧ 1 ≤ z ∧ z ≤ Bd k
 | 0, _, l, h => by cases h
 | k + 1, hk, l, h => by
  cases h with
  | mk l hn h =>
  obtain ⟨op, nm, to, ns, n, lo, hi, sep, ⟨k9, n10, s11, f12⟩, prs, ks⟩ := l
  have hlen : ks.length ≤ 100 := hn.2.2.1
  have hb := Bd_le (show k ≤ 6 by omega)
  have hb1 := Bd_pos k
  have hL : ∀ (l : List Ln), (∀ x, x ∈ l → GL k x) → ∀ (a : Int), 0 ≤ a → a + l.length * Bd k ≤ 100000000000000000 → ∃ z, (∀ n, k ≤ n → ∀ j, f94_L2 (f94 n) l j a = some (.inr z)) ∧ a ≤ z ∧ z ≤ a + l.length * Bd k := by
   intro l
   induction l with
   | nil => exact fun _ a _ _ => ⟨a, fun _ _ _ => rfl, by omega, by simp⟩
   | cons x l ih =>
    intro hx a h0 ha
    have e1 : ((x :: l).length : Int) * Bd k = l.length * Bd k + Bd k := by rw [List.length_cons, Int.natCast_succ, Int.add_mul, Int.one_mul]
    have hB : 0 ≤ (l.length : Int) * Bd k := Int.mul_nonneg (by omega) (by omega)
    obtain ⟨z, hz, hz1, hz2⟩ := l_size k (by omega) x (hx x List.mem_cons_self)
    obtain ⟨y, hy, hy1, hy2⟩ := ih (fun x hx' => hx x (List.mem_cons_of_mem _ hx')) (a + z) (by omega) (by omega)
    refine ⟨y, fun n hn j => ?_, by omega, by omega⟩
    have hzn := hz n hn
    obtain ⟨op, nm, to, ns, n', lo, hi, sep, ⟨k9, n10, s11, f12⟩, prs, kk⟩ := x
    unfold f94_L2
    simp only [hzn, Option.bind_some, wrap_id (show -9223372036854775808 ≤ a + z by omega) (by omega)]
    exact hy n hn _
  have hm := Int.mul_le_mul_of_nonneg_right (show (ks.length : Int) ≤ 100 by omega) (show 0 ≤ Bd k by omega)
  obtain ⟨z, hz, hz1, hz2⟩ := hL ks h 1 (by omega) (by omega)
  refine ⟨z, fun n hn => ?_, hz1, by unfold Bd; omega⟩
  obtain ⟨n, rfl⟩ : ∃ a, n = a + 1 := ⟨n - 1, by omega⟩
  show b94 (f94 n) _ = _
  unfold b94
  dsimp only
  rw [hz n (by omega) 0]; rfl
theorem l_deep : ∀ (k : Nat), k ≤ 900 → ∀ (l : Ln), GL k l → ∃ z : Int, (∀ n, k ≤ n → f95 n l = some z) ∧ 1 ≤ z ∧ z ≤ k
 | 0, _, l, h => by cases h
 | k + 1, hk9, l, h => by
  cases h with
  | mk l hn h =>
  obtain ⟨op, nm, to, ns, n, lo, hi, sep, ⟨k9, n10, s11, f12⟩, prs, ks⟩ := l
  have hL : ∀ (l : List Ln), (∀ x, x ∈ l → GL k x) → ∀ (a : Int), 0 ≤ a → a ≤ k → ∃ z, (∀ n, k ≤ n → ∀ j, f95_L2 (f95 n) l j a = some (.inr z)) ∧ a ≤ z ∧ z ≤ k := by
   intro l
   induction l with
   | nil => exact fun _ a h0 h1 => ⟨a, fun _ _ _ => rfl, by omega, h1⟩
   | cons x l ih =>
    intro hx a h0 h1
    obtain ⟨z, hz, hz1, hz2⟩ := l_deep k (by omega) x (hx x List.mem_cons_self)
    obtain ⟨d, hd⟩ : ∃ d, d = (if z > a then z else a) := ⟨_, rfl⟩
    have hda : a ≤ d ∧ d ≤ k := by
     rw [hd]; split
     · exact ⟨by omega, hz2⟩
     · exact ⟨by omega, h1⟩
    obtain ⟨y, hy, hy1, hy2⟩ := ih (fun x hx' => hx x (List.mem_cons_of_mem _ hx')) d (by omega) hda.2
    refine ⟨y, fun n hn j => ?_, by omega, hy2⟩
    have hzn := hz n hn
    obtain ⟨op, nm, to, ns, n', lo, hi, sep, ⟨k9, n10, s11, f12⟩, prs, kk⟩ := x
    unfold f95_L2
    simp only [hzn, Option.bind_some, ← hd]
    exact hy n hn _
  obtain ⟨z, hz, hz1, hz2⟩ := hL ks h 0 (by omega) (by omega)
  refine ⟨z + 1, fun n hn => ?_, by omega, by omega⟩
  obtain ⟨n, rfl⟩ : ∃ a, n = a + 1 := ⟨n - 1, by omega⟩
  show b95 (f95 n) _ = _
  unfold b95
  dsimp only
  rw [hz n (by omega) 0]
  show some (IntKind.wrap .i64 (z + 1)) = _
  rw [wrap_id (by omega) (by omega)]
theorem e_walk : ∀ (k n m : Nat), k + 400 ≤ n → k + 400 ≤ m → ∀ l, GL k l → E (f96 n l) (f96 m l)
 | 0, _, _, _, _, l, h => by cases h
 | k + 1, n, m, hn, hm, l, h => by
  obtain ⟨n, rfl⟩ : ∃ a, n = a + 1 := ⟨n - 1, by omega⟩
  obtain ⟨m, rfl⟩ : ∃ a, m = a + 1 := ⟨m - 1, by omega⟩
  cases h with
  | mk l hl h =>
  have hN := e_node n m (by omega) (by omega) l hl
  obtain ⟨op, nm, to, ns, x, lo, hi, sep, ⟨k9, n10, s11, f12⟩, prs, ks⟩ := l
  have hL : ∀ (l : List Ln), (∀ x, x ∈ l → GL k x) → ∀ (j : Nat), E (f96_L2 (f96 n) l j) (f96_L2 (f96 m) l j) := by
   intro l
   induction l with
   | nil => exact fun _ j => E.s _
   | cons x l ih =>
    intro hx j
    have hw := e_walk k n m (by omega) (by omega) x (hx x List.mem_cons_self)
    obtain ⟨op, nm, to, ns, n', lo, hi, sep, ⟨k9, n10, s11, f12⟩, prs, kk⟩ := x
    exact .b hw fun r => .c (.l (.s _)) (ih (fun x hx' => hx x (List.mem_cons_of_mem _ hx')) _)
  exact .b hN fun r => .c (.s _) (.sb (hL ks h 0) fun _ => .s _)
theorem parts_L2 (N : Nat) (hN : 500 ≤ N) (k : Nat) (hk : k ≤ 6) : ∀ (ks : List Ln), (∀ x, x ∈ ks → GL k x) → ∀ (j : Nat) (a d : Int) (q : Bool), 0 ≤ a → 0 ≤ d → d ≤ 1000 → a + ks.length * Bd k ≤ 100000000000000000 →
 ∃ S D Q, f305_L2 (N + 1) ks j a d q = some (.inr (S, D, Q)) ∧ f94_L2 (f94 N) ks j a = some (.inr S) ∧ f95_L2 (f95 N) ks j d = some (.inr D) ∧ a ≤ S ∧ d ≤ D ∧ D ≤ 1000 ∧
  ∃ w, f96_L2 (f96 N) ks j = some w ∧ (w = .inr () ∨ ∃ r, w = .inl r ∧ r ≠ 0) ∧ (S ≤ 120 → D < 40 → (Q = true ↔ (q = true ∧ w = .inr ()))) := by
 intro ks
 induction ks with
 | nil => exact fun _ j a d q h0 h1 h2 h3 => ⟨a, d, q, rfl, rfl, rfl, by omega, by omega, h2, .inr (), rfl, .inl rfl, fun _ _ => by simp⟩
 | cons x ks ih =>
  intro hx j a d q h0 h1 h2 h3
  have e1 : ((x :: ks).length : Int) * Bd k = ks.length * Bd k + Bd k := by rw [List.length_cons, Int.natCast_succ, Int.add_mul, Int.one_mul]
  have hB : 0 ≤ (ks.length : Int) * Bd k := Int.mul_nonneg (by omega) (by have := Bd_pos k; omega)
  obtain ⟨z, hz, hz1, hz2⟩ := l_size k (by omega) x (hx x List.mem_cons_self)
  obtain ⟨y, hy, hy1, hy2⟩ := l_deep k (by omega) x (hx x List.mem_cons_self)
  obtain ⟨r, hr1, hr2⟩ := e_walk k (N + 1) N (by omega) (by omega) x (hx x List.mem_cons_self)
  have hzN := hz (N + 1) (by omega)
  have hyN := hy (N + 1) (by omega)
  have hzM := hz N (by omega)
  have hyM := hy N (by omega)
  have ih := fun a d q => ih (fun x hx' => hx x (List.mem_cons_of_mem _ hx')) (j + 1) a d q
  obtain ⟨op, nm, to, ns, n, lo, hi, sep, ⟨k9, n10, s11, f12⟩, prs, kk⟩ := x
  have ew : IntKind.wrap .i64 (a + z) = a + z := wrap_id (by omega) (by omega)
  obtain ⟨c, hc, hc2⟩ : ∃ c, f70 (N + 1) (.mk op nm to ns n lo hi sep (.mk k9 n10 s11 f12) prs kk) = some c ∧ (z ≤ 120 → y ≤ 40 → c = r) := by
   unfold f70
   simp only [hzN, hyN, hr1, Option.bind_some]
   by_cases c1 : z > 120
   · rw [decide_eq_true c1]; exact ⟨_, rfl, by omega⟩
   · rw [decide_eq_false c1]
     by_cases c2 : y > 40
     · rw [decide_eq_true c2]; exact ⟨_, rfl, by omega⟩
     · rw [decide_eq_false c2]; exact ⟨_, rfl, fun _ _ => rfl⟩
  obtain ⟨d', hd', hd1, hd2, hd3⟩ : ∃ d', d' = (if y > d then y else d) ∧ d ≤ d' ∧ y ≤ d' ∧ d' ≤ 1000 := by
   refine ⟨_, rfl, ?_, ?_, ?_⟩ <;> split <;> omega
  obtain ⟨q', hq', hqr⟩ : ∃ q', f305_L2 (N + 1) (.mk op nm to ns n lo hi sep (.mk k9 n10 s11 f12) prs kk :: ks) j a d q = f305_L2 (N + 1) ks (j + 1) (a + z) d' q' ∧ (q' = true ↔ (q = true ∧ c = 0)) := by
   conv => enter [1, q', 1, 1]; unfold f305_L2
   simp only [hzN, hyN, hc, Option.bind_some, ew, ← hd']
   cases q with
   | false => exact ⟨false, rfl, by simp⟩
   | true =>
    by_cases c0 : c = 0
    · subst c0; exact ⟨true, rfl, by simp⟩
    · have : (c == 0) = false := by simpa using c0
      rw [this]; exact ⟨false, rfl, by simp [c0]⟩
  obtain ⟨S, D, Q, g1, g2, g3, g4, g5, g6, w, g7, g8, g9⟩ := ih (a + z) d' q' (by omega) (by omega) (by omega) (by omega)
  refine ⟨S, D, Q, by rw [hq', g1], ?_, ?_, by omega, by omega, g6, ?_⟩
  · unfold f94_L2
    simp only [hzM, Option.bind_some, ew, g2]
  · unfold f95_L2
    simp only [hyM, Option.bind_some, ← hd', g3]
  · unfold f96_L2
    simp only [hr2, Option.bind_some]
    by_cases r0 : r = 0
    · subst r0
      refine ⟨w, g7, g8, fun h120 h40 => ?_⟩
      rw [g9 h120 h40, hqr, hc2 (by omega) (by omega)]
      simp
    · have : (r != 0) = true := by simpa using r0
      rw [this]
      refine ⟨.inl r, rfl, .inr ⟨r, rfl, r0⟩, fun h120 h40 => ?_⟩
      rw [g9 h120 h40, hqr, hc2 (by omega) (by omega)]
      simp [r0]
theorem parts_L4 (N : Nat) (hN : 500 ≤ N) (k : Nat) (hk : k ≤ 6) : ∀ (ks : List Ln), (∀ x, x ∈ ks → GL k x) → ∀ (j : Nat) (a d : Int) (q : Bool), 0 ≤ a → 0 ≤ d → d ≤ 1000 → a + ks.length * Bd k ≤ 100000000000000000 →
 ∃ S D Q, f305_L4 (N + 1) ks j a d q = some (.inr (S, D, Q)) ∧ f94_L2 (f94 N) ks j a = some (.inr S) ∧ f95_L2 (f95 N) ks j d = some (.inr D) ∧ a ≤ S ∧ d ≤ D ∧ D ≤ 1000 ∧
  ∃ w, f96_L2 (f96 N) ks j = some w ∧ (w = .inr () ∨ ∃ r, w = .inl r ∧ r ≠ 0) ∧ (S ≤ 120 → D < 40 → (Q = true ↔ (q = true ∧ w = .inr ()))) := by
 intro ks
 induction ks with
 | nil => exact fun _ j a d q h0 h1 h2 h3 => ⟨a, d, q, rfl, rfl, rfl, by omega, by omega, h2, .inr (), rfl, .inl rfl, fun _ _ => by simp⟩
 | cons x ks ih =>
  intro hx j a d q h0 h1 h2 h3
  have e1 : ((x :: ks).length : Int) * Bd k = ks.length * Bd k + Bd k := by rw [List.length_cons, Int.natCast_succ, Int.add_mul, Int.one_mul]
  have hB : 0 ≤ (ks.length : Int) * Bd k := Int.mul_nonneg (by omega) (by have := Bd_pos k; omega)
  obtain ⟨z, hz, hz1, hz2⟩ := l_size k (by omega) x (hx x List.mem_cons_self)
  obtain ⟨y, hy, hy1, hy2⟩ := l_deep k (by omega) x (hx x List.mem_cons_self)
  obtain ⟨r, hr1, hr2⟩ := e_walk k (N + 1) N (by omega) (by omega) x (hx x List.mem_cons_self)
  have hzN := hz (N + 1) (by omega)
  have hyN := hy (N + 1) (by omega)
  have hzM := hz N (by omega)
  have hyM := hy N (by omega)
  have ih := fun a d q => ih (fun x hx' => hx x (List.mem_cons_of_mem _ hx')) (j + 1) a d q
  obtain ⟨op, nm, to, ns, n, lo, hi, sep, ⟨k9, n10, s11, f12⟩, prs, kk⟩ := x
  have ew : IntKind.wrap .i64 (a + z) = a + z := wrap_id (by omega) (by omega)
  obtain ⟨c, hc, hc2⟩ : ∃ c, f70 (N + 1) (.mk op nm to ns n lo hi sep (.mk k9 n10 s11 f12) prs kk) = some c ∧ (z ≤ 120 → y ≤ 40 → c = r) := by
   unfold f70
   simp only [hzN, hyN, hr1, Option.bind_some]
   by_cases c1 : z > 120
   · rw [decide_eq_true c1]; exact ⟨_, rfl, by omega⟩
   · rw [decide_eq_false c1]
     by_cases c2 : y > 40
     · rw [decide_eq_true c2]; exact ⟨_, rfl, by omega⟩
     · rw [decide_eq_false c2]; exact ⟨_, rfl, fun _ _ => rfl⟩
  obtain ⟨d', hd', hd1, hd2, hd3⟩ : ∃ d', d' = (if y > d then y else d) ∧ d ≤ d' ∧ y ≤ d' ∧ d' ≤ 1000 := by
   refine ⟨_, rfl, ?_, ?_, ?_⟩ <;> split <;> omega
  obtain ⟨q', hq', hqr⟩ : ∃ q', f305_L4 (N + 1) (.mk op nm to ns n lo hi sep (.mk k9 n10 s11 f12) prs kk :: ks) j a d q = f305_L4 (N + 1) ks (j + 1) (a + z) d' q' ∧ (q' = true ↔ (q = true ∧ c = 0)) := by
   conv => enter [1, q', 1, 1]; unfold f305_L4
   simp only [hzN, hyN, hc, Option.bind_some, ew, ← hd']
   cases q with
   | false => exact ⟨false, rfl, by simp⟩
   | true =>
    by_cases c0 : c = 0
    · subst c0; exact ⟨true, rfl, by simp⟩
    · have : (c == 0) = false := by simpa using c0
      rw [this]; exact ⟨false, rfl, by simp [c0]⟩
  obtain ⟨S, D, Q, g1, g2, g3, g4, g5, g6, w, g7, g8, g9⟩ := ih (a + z) d' q' (by omega) (by omega) (by omega) (by omega)
  refine ⟨S, D, Q, by rw [hq', g1], ?_, ?_, by omega, by omega, g6, ?_⟩
  · unfold f94_L2
    simp only [hzM, Option.bind_some, ew, g2]
  · unfold f95_L2
    simp only [hyM, Option.bind_some, ← hd', g3]
  · unfold f96_L2
    simp only [hr2, Option.bind_some]
    by_cases r0 : r = 0
    · subst r0
      refine ⟨w, g7, g8, fun h120 h40 => ?_⟩
      rw [g9 h120 h40, hqr, hc2 (by omega) (by omega)]
      simp
    · have : (r != 0) = true := by simpa using r0
      rw [this]
      refine ⟨.inl r, rfl, .inr ⟨r, rfl, r0⟩, fun h120 h40 => ?_⟩
      rw [g9 h120 h40, hqr, hc2 (by omega) (by omega)]
      simp [r0]
theorem sat_mk_of {α : Type} {m : Option α} {v : α} {R : α → Prop} (h : m = some v) (k : R v) : sat m R := ⟨v, h, k⟩
theorem vcopy_id : ∀ (n k : Nat), k ≤ n → ∀ v, WV k v → f57 n v = some v
 | 0, k, hk, v, h => by cases h; omega
 | n + 1, k, hk, v, h => by
  cases h with
  | @mk k kd x s ps h1 h =>
  have hL : ∀ (g i : Nat), i + g = ps.length → f57_L2 (f57 n) g (i : Int) ps = some (.inr ps) := by
   intro g
   induction g with
   | zero => intro i hi; rfl
   | succ g ih =>
    intro i hi
    have hi' : i < ps.length := by omega
    have hc := vcopy_id n k (by omega) (ps[i]).2 (h _ (List.getElem_mem hi'))
    have hg : ps[0 + ((i : Nat) : Int).toNat]? = some ps[i] := by
     rw [Nat.zero_add, Int.toNat_natCast]
     exact List.getElem?_eq_getElem hi'
    have hset : ps.set (0 + ((i : Nat) : Int).toNat) ps[i] = ps := by
     rw [Nat.zero_add, Int.toNat_natCast]
     exact List.set_getElem_self hi'
    generalize ps[i] = x at hc hg hset
    obtain ⟨a, ⟨k1, n1, s1, f1⟩⟩ := x
    unfold f57_L2
    have hc : f57 n (.mk k1 n1 s1 f1) = some (.mk k1 n1 s1 f1) := hc
    have hp : (0 : Int) ≤ (i : Int) ∧ (i : Int) < ((ps.length : Nat) : Int) := by omega
    simp only [grdP, getN, hg, hc, Option.bind_some, if_pos hp, hset]
    have := ih (i + 1) (by omega)
    rw [Int.natCast_succ] at this
    exact this
  show b57 (f57 n) (.mk kd x s ps) = _
  unfold b57 f79
  have h0 := hL ps.length 0 (by omega)
  have e : (((ps.length : Nat) : Int) - 0).toNat = ps.length := by omega
  have hb : ((ps.length : Nat) : Int) ≤ 9223372036854775807 := by omega
  simp only [grdP, if_pos (show ps.length ≤ 68719476736 by omega), Option.bind_some, if_pos hb, e, Int.natCast_zero ▸ h0, sbind]
theorem lcopy_id : ∀ (k n : Nat), k + 101 ≤ n → ∀ l, GL k l → f320 n l = some l
 | 0, n, _, l, h => by cases h
 | k + 1, n, hn, l, h => by
  obtain ⟨n, rfl⟩ : ∃ a, n = a + 1 := ⟨n - 1, by omega⟩
  cases h with
  | mk l hl h =>
  obtain ⟨op, nm, to, ns, x, lo, hi, sep, ⟨k9, n10, s11, f12⟩, prs, ks⟩ := l
  obtain ⟨h1, h2, h3, h4, h5, h6⟩ := hl
  have hp : ∀ (q : LW), (∀ x, x ∈ q → WV 100 x.1 ∧ WV 100 x.2) → ∀ (j : Nat) (a : LW), a.length + q.length ≤ 100 → f320_L2 n q j a = some (.inr (a ++ q)) := by
   intro q
   induction q with
   | nil => exact fun _ j a _ => by rw [List.append_nil]; rfl
   | cons y q ih =>
    intro hq j a ha
    have hy := hq y List.mem_cons_self
    rw [List.length_cons] at ha
    have hy1 := vcopy_id n 100 (by omega) _ hy.1
    have hy2 := vcopy_id n 100 (by omega) _ hy.2
    have ih := ih (fun x hx => hq x (List.mem_cons_of_mem _ hx)) (j + 1) (a ++ [y]) (by simp; omega)
    obtain ⟨⟨⟩, ⟨⟩⟩ := y
    unfold f320_L2
    simp only at hy1 hy2
    simp only [hy1, hy2, Option.bind_some]
    unfold grdP
    rw [if_pos (by simp; omega), ih, List.append_assoc]; rfl
  have hk : ∀ (q : List Ln), (∀ x, x ∈ q → GL k x) → ∀ (j : Nat) (a : List Ln), a.length + q.length ≤ 100 → f320_L4 (f320 n) q j a = some (.inr (a ++ q)) := by
   intro q
   induction q with
   | nil => exact fun _ j a _ => by rw [List.append_nil]; rfl
   | cons y q ih =>
    intro hq j a ha
    rw [List.length_cons] at ha
    have hy := lcopy_id k n (by omega) _ (hq y List.mem_cons_self)
    have ih := ih (fun x hx => hq x (List.mem_cons_of_mem _ hx)) (j + 1) (a ++ [y]) (by simp; omega)
    obtain ⟨op, nm, to, ns, n', lo, hi, sep, ⟨k9, n10, s11, f12⟩, prs, kk⟩ := y
    unfold f320_L4
    simp only [hy, Option.bind_some]
    unfold grdP
    rw [if_pos (by simp; omega), ih, List.append_assoc]; rfl
  show b320 n (f320 n) _ = _
  unfold b320
  have hv := vcopy_id n 100 (by omega) _ h4
  unfold grdP
  simp only [if_pos (show ns.length ≤ 68719476736 by omega), hv, Option.bind_some, hp prs h5 0 [] (by simp; omega), hk ks h 0 [] (by simp; omega), sbind, List.nil_append]
theorem vt_parts {s : PT} {k : Nat} {kd : Int} {m p : BA} {lo hi : Int} {ps : PT} (h : VT s (k + 1) (.mk kd m lo hi p ps)) : ∀ x, x ∈ ps → VT s k x.2 := by
 cases h with
 | list _ _ _ _ x h => intro y hy; obtain rfl := List.mem_singleton.1 hy; exact h
 | map _ _ _ _ x h => intro y hy; obtain rfl := List.mem_singleton.1 hy; exact h
 | choice _ _ _ _ _ _ _ h => exact h
 | record _ _ _ _ _ _ h => exact h
 | _ => subst ps; simp
theorem vt_zero {s : PT} {kd : Int} {m p : BA} {lo hi : Int} {ps : PT} (h : VT s 0 (.mk kd m lo hi p ps)) : ps = [] := by
 cases h <;> assumption
theorem spread_tot {s : PT} : ∀ (k n : Nat), k < n → ∀ t, VT s k t → sat (f378 n t) fun _ => True := by
 intro k
 induction k with
 | zero =>
  intro n hn t h
  obtain ⟨n, rfl⟩ : ∃ a, n = a + 1 := ⟨n - 1, by omega⟩
  obtain ⟨kd, m, lo, hi, p, ps⟩ := t
  obtain rfl := vt_zero h
  exact ⟨_, rfl, trivial⟩
 | succ k ih =>
  intro n hn t h
  obtain ⟨n, rfl⟩ : ∃ a, n = a + 1 := ⟨n - 1, by omega⟩
  obtain ⟨kd, m, lo, hi, p, ps⟩ := t
  have hp := vt_parts h
  have hL : ∀ (l : PT), (∀ x, x ∈ l → VT s k x.2) → ∀ (j : Nat) (a b : Int), sat (f378_L2 (f378 n) l j a b) fun o => ∃ x, o = .inr x ∧ True := by
   intro l
   induction l with
   | nil => exact fun _ j a b => sat_mk ⟨_, rfl, trivial⟩
   | cons x l ihl =>
    intro hl j a b
    have hx := ih n (by omega) _ (hl x List.mem_cons_self)
    obtain ⟨nm, ⟨⟩⟩ := x
    exact i_call hx fun r _ => ihl (fun x hx => hl x (List.mem_cons_of_mem _ hx)) _ _ _
  exact i_any (fun _ => True) (hL ps hp 0 1 1) fun x _ => sat_mk trivial
theorem nodes_tot : ∀ (k n : Nat), k ≤ n → ∀ l, GL k l → sat (f379 n l) fun _ => True := by
 intro k
 induction k with
 | zero => intro n hn l h; cases h
 | succ k ih =>
  intro n hn l h
  obtain ⟨n, rfl⟩ : ∃ a, n = a + 1 := ⟨n - 1, by omega⟩
  cases h with
  | mk l hl h =>
  obtain ⟨op, nm, to, ns, x, lo, hi, sep, ⟨k9, n10, s11, f12⟩, prs, ks⟩ := l
  have hL : ∀ (l : List Ln), (∀ x, x ∈ l → GL k x) → ∀ (j : Nat) (a : Int), sat (f379_L2 (f379 n) l j a) fun o => ∃ x, o = .inr x ∧ True := by
   intro l
   induction l with
   | nil => exact fun _ j a => sat_mk ⟨_, rfl, trivial⟩
   | cons x l ihl =>
    intro hl j a
    have hx := ih n (by omega) _ (hl x List.mem_cons_self)
    obtain ⟨op, nm, to, ns, n', lo, hi, sep, ⟨k9, n10, s11, f12⟩, prs, kk⟩ := x
    exact i_call hx fun r _ => ihl (fun x hx => hl x (List.mem_cons_of_mem _ hx)) _ _
  exact i_any (fun _ => True) (hL ks h 0 1) fun x _ => sat_mk trivial
theorem typed_tot {s : PT} (hs : Sch s) (n : Nat) (hn : 60200 ≤ n) (t : Tp) (ht : VT s 3 t) (l : LI) : sat (f361 n s t l) fun r => GL 7 r.1 ∧ VT s 69 r.2 := by
 have h := lens_tot hs 3 (by omega) 3 (by omega) (Nat.le_of_ble_eq_true rfl) n (by omega) t l ht
 obtain ⟨k1, m1, lo1, hi1, p1, ps1⟩ := t
 unfold f361
 dsimp only
 refine i_call h fun r hr => ?_
 obtain ⟨⟨op, a, b, c, e, f, g, h, ⟨⟩, pr, kk⟩, ⟨⟩, l'⟩ := r
 refine i_call (spread_tot 69 n (by omega) _ hr.2) fun r2 _ => i_call (nodes_tot 7 n (by omega) _ hr.1) fun r3 _ => ?_
 obtain ⟨a1, a2⟩ := r2
 refine i_cond (fun _ => ?_) (fun _ => i_cond (fun _ => ?_) (fun _ => i_cond (fun _ => ?_) (fun _ => sat_mk hr)))
 all_goals
  rw [same_eq]; exact sat_mk ⟨glE _ _ _ _ _ _ _ (by omega), ht.le (by omega)⟩
theorem of_tot (n : Nat) (hn : 60200 ≤ n) (l1 l2 l3 : LI) : sat (f319 n l1 l2 l3) fun (l5, v6, s7, v8, v9, s10, l11, v12, s13, s14, l15, v16, v17, v18, v19, v20, v21, s22, l23, l24, l25) => GL 7 (.mk v12 s13 s14 l15 v16 v17 v18 v19 (.mk v20 v21 s22 l23) l24 l25) := by
 unfold f319
 dsimp only
 refine i_call (Schema_tot l1) fun s hs => i_call (Type_tot s (by have := hs.length; omega) n (by omega) l2) fun t ht => ?_
 have ht := ht.vt (k := 3)
 obtain ⟨k1, m1, lo1, hi1, p1, ps1⟩ := t
 refine i_call (Q := GL 7) ?_ fun r hr => ?_
 · unfold f340
   dsimp only
   refine i_call (typed_tot hs n hn _ ht l3) fun r hr => ?_
   obtain ⟨⟨op, a, b, c, e, f, g, h, ⟨⟩, pr, kk⟩, ⟨⟩⟩ := r
   exact sat_mk hr.1
 · obtain ⟨op, a, b, c, e, f, g, h, ⟨⟩, pr, kk⟩ := r
   exact sat_mk hr
theorem parts_law (N : Nat) (hN : 60200 ≤ N) (l1 l2 l3 : LI) (v4 : Int) : sat (f305 (N + 1) l1 l2 l3 v4) fun q => q = true := by
 have hN2 : 500 ≤ N := by omega
 unfold f305
 dsimp only
 refine i_call (of_tot (N + 1) (by omega) l1 l2 l3) fun r hr => ?_
 obtain ⟨l5, v6, s7, v8, v9, s10, l11, op, nm, to, ns, n30, lo, hi, sep, k9, n10, s11, f12, prs, ks⟩ := r
 dsimp only at hr ⊢
 rw [lcopy_id 7 (N + 1) (by omega) _ hr]
 cases hr with
 | mk l hn hks =>
 have hks : ∀ x, x ∈ ks → GL 6 x := hks
 have hlen : ks.length ≤ 100 := hn.2.2.1
 dsimp only [Option.bind_some]
 refine i_any (fun _ => True) (i_cond (fun _ => sat_mk ⟨_, rfl, trivial⟩) (fun _ => sat_mk ⟨_, rfl, trivial⟩)) fun v41 _ => ?_
 have hn : NP (.mk op nm to ns v41 lo hi sep (.mk k9 n10 s11 f12) prs ks) := hn
 obtain ⟨v44, hv1, hv2⟩ := e_node (N + 1) N (by omega) (by omega) _ hn
 rw [hv1]
 dsimp only [Option.bind_some]
 have hN := hN2
 refine i_cond (fun c0 => ?_) (fun c0 => ?_)
 · have c0 : v44 = 0 := by simpa using c0
   obtain ⟨S, D, Q, g1, g2, g3, g4, g5, g6, w, g7, g8, g9⟩ := parts_L4 N hN 6 (by omega) ks hks 0 1 0 true (by omega) (by omega) (by omega) (by have := Bd_six; have := Int.mul_le_mul_of_nonneg_right (show (ks.length : Int) ≤ 100 by omega) (show 0 ≤ Bd 6 by omega); omega)
   have hsz : f94 (N + 1) (.mk op nm to ns v41 lo hi sep (.mk k9 n10 s11 f12) prs ks) = some S := by
    show b94 (f94 N) _ = _
    unfold b94; dsimp only; rw [g2]; rfl
   have ed : IntKind.wrap .i64 (D + 1) = D + 1 := wrap_id (by omega) (by omega)
   have hdp : f95 (N + 1) (.mk op nm to ns v41 lo hi sep (.mk k9 n10 s11 f12) prs ks) = some (D + 1) := by
    show b95 (f95 N) _ = _
    unfold b95; dsimp only; rw [g3]; show some (IntKind.wrap .i64 (D + 1)) = _; rw [ed]
   have hwk : f96 (N + 1) (.mk op nm to ns v41 lo hi sep (.mk k9 n10 s11 f12) prs ks) = cond (v44 != 0) (some v44) (sbind (some w) fun _ => some 0) := by
    show b96 N (f96 N) _ = _
    unfold b96; dsimp only; rw [hv2, g7]; rfl
   obtain ⟨C, hC, hC0⟩ : ∃ C, f70 (N + 1) (.mk op nm to ns v41 lo hi sep (.mk k9 n10 s11 f12) prs ks) = some C ∧ (C = 0 ↔ (S ≤ 120 ∧ D < 40 ∧ v44 = 0 ∧ w = .inr ())) := by
    unfold f70
    simp only [hsz, hdp, hwk, Option.bind_some]
    by_cases c1 : S > 120
    · rw [decide_eq_true c1]; exact ⟨_, rfl, by simp; omega⟩
    · rw [decide_eq_false c1]
      by_cases c2 : D + 1 > 40
      · rw [decide_eq_true c2]; exact ⟨_, rfl, by simp; omega⟩
      · rw [decide_eq_false c2]
        by_cases c3 : v44 = 0
        · subst c3
          rcases g8 with rfl | ⟨r, rfl, hr⟩
          · exact ⟨_, rfl, by simp; omega⟩
          · exact ⟨_, rfl, by simp [hr]⟩
        · have : (v44 != 0) = true := by simpa using c3
          rw [this]; exact ⟨_, rfl, by simp [c3]⟩
   have hdrop : ∀ (op : Int) (a b : BA) (v : V), f94 (N + 1) (.mk op a b [] 0 0 0 0 v [] []) = some 1 := by rintro op a b ⟨⟩; rfl
   refine i_sbind (sat_mk_of g1 ?_)
   dsimp only
   refine i_any (fun q : Bool => q = (decide (S ≤ 120) && decide (D < 40))) ?_ ?_
   · by_cases c1 : S ≤ 120 <;> by_cases c2 : D < 40 <;> simp only [decide_eq_true, decide_eq_false, c1, c2, not_false_eq_true] <;> exact sat_mk ⟨_, rfl, rfl⟩
   rintro _ rfl
   simp only [f325, f44, Option.bind_some, hdrop, hsz, hdp, hC, ed, beq_self_eq_true, cond_true, sbind]
   by_cases c3 : C = 0
   · obtain ⟨c1, c2, _, c4⟩ := hC0.1 c3
     obtain rfl : Q = true := (g9 c1 c2).2 ⟨rfl, c4⟩
     rw [decide_eq_true c1, decide_eq_true c2, c3]; exact ⟨_, rfl, rfl⟩
   · have e : (C == 0) = false := by simpa using c3
     rw [e]
     by_cases c1 : S ≤ 120
     · rw [decide_eq_true c1]
       by_cases c2 : D < 40
       · rw [decide_eq_true c2]
         have : Q = false := by
          cases Q with
          | false => rfl
          | true => exact absurd (hC0.2 ⟨c1, c2, c0, ((g9 c1 c2).1 rfl).2⟩) c3
         subst this
         exact ⟨_, rfl, rfl⟩
       · rw [decide_eq_false c2]; cases Q <;> exact ⟨_, rfl, rfl⟩
     · rw [decide_eq_false c1]; cases Q <;> exact ⟨_, rfl, rfl⟩
 · have c0 : v44 ≠ 0 := by simpa using c0
   obtain ⟨S, D, Q, g1, g2, g3, g4, g5, g6, w, g7, g8, g9⟩ := parts_L2 N hN 6 (by omega) ks hks 0 1 0 false (by omega) (by omega) (by omega) (by have := Bd_six; have := Int.mul_le_mul_of_nonneg_right (show (ks.length : Int) ≤ 100 by omega) (show 0 ≤ Bd 6 by omega); omega)
   have hsz : f94 (N + 1) (.mk op nm to ns v41 lo hi sep (.mk k9 n10 s11 f12) prs ks) = some S := by
    show b94 (f94 N) _ = _
    unfold b94; dsimp only; rw [g2]; rfl
   have ed : IntKind.wrap .i64 (D + 1) = D + 1 := wrap_id (by omega) (by omega)
   have hdp : f95 (N + 1) (.mk op nm to ns v41 lo hi sep (.mk k9 n10 s11 f12) prs ks) = some (D + 1) := by
    show b95 (f95 N) _ = _
    unfold b95; dsimp only; rw [g3]; show some (IntKind.wrap .i64 (D + 1)) = _; rw [ed]
   have hwk : f96 (N + 1) (.mk op nm to ns v41 lo hi sep (.mk k9 n10 s11 f12) prs ks) = cond (v44 != 0) (some v44) (sbind (some w) fun _ => some 0) := by
    show b96 N (f96 N) _ = _
    unfold b96; dsimp only; rw [hv2, g7]; rfl
   obtain ⟨C, hC, hC0⟩ : ∃ C, f70 (N + 1) (.mk op nm to ns v41 lo hi sep (.mk k9 n10 s11 f12) prs ks) = some C ∧ (C = 0 ↔ (S ≤ 120 ∧ D < 40 ∧ v44 = 0 ∧ w = .inr ())) := by
    unfold f70
    simp only [hsz, hdp, hwk, Option.bind_some]
    by_cases c1 : S > 120
    · rw [decide_eq_true c1]; exact ⟨_, rfl, by simp; omega⟩
    · rw [decide_eq_false c1]
      by_cases c2 : D + 1 > 40
      · rw [decide_eq_true c2]; exact ⟨_, rfl, by simp; omega⟩
      · rw [decide_eq_false c2]
        by_cases c3 : v44 = 0
        · subst c3
          rcases g8 with rfl | ⟨r, rfl, hr⟩
          · exact ⟨_, rfl, by simp; omega⟩
          · exact ⟨_, rfl, by simp [hr]⟩
        · have : (v44 != 0) = true := by simpa using c3
          rw [this]; exact ⟨_, rfl, by simp [c3]⟩
   have hdrop : ∀ (op : Int) (a b : BA) (v : V), f94 (N + 1) (.mk op a b [] 0 0 0 0 v [] []) = some 1 := by rintro op a b ⟨⟩; rfl
   refine i_sbind (sat_mk_of g1 ?_)
   dsimp only
   refine i_any (fun q : Bool => q = (decide (S ≤ 120) && decide (D < 40))) ?_ ?_
   · by_cases c1 : S ≤ 120 <;> by_cases c2 : D < 40 <;> simp only [decide_eq_true, decide_eq_false, c1, c2, not_false_eq_true] <;> exact sat_mk ⟨_, rfl, rfl⟩
   rintro _ rfl
   simp only [f325, f44, Option.bind_some, hdrop, hsz, hdp, hC, ed, beq_self_eq_true, cond_true, sbind]
   have c3 : C ≠ 0 := fun h => c0 (hC0.1 h).2.2.1
   have e : (C == 0) = false := by simpa using c3
   rw [e]
   by_cases c1 : S ≤ 120
   · rw [decide_eq_true c1]
     by_cases c2 : D < 40
     · rw [decide_eq_true c2]
       have : Q = false := by
        cases Q with
        | false => rfl
        | true => have := ((g9 c1 c2).1 rfl).1; cases this
       subst this
       exact ⟨_, rfl, rfl⟩
     · rw [decide_eq_false c2]; cases Q <;> exact ⟨_, rfl, rfl⟩
   · rw [decide_eq_false c1]; cases Q <;> exact ⟨_, rfl, rfl⟩
end Go.Clap
