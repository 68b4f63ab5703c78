/- The checks of the small code against the loaded functions. -/
import Derived.Test.YtnjgakngmbbmfaaGreatDoorClapKC
import Derived.Test.YtnjgakngmbbmfaaGreatDoorClapT3
set_option linter.unusedVariables false
set_option linter.unusedSimpArgs false
set_option maxRecDepth 100000
namespace Go.Clap
open Go.IntKind (wrap)
abbrev tot {α : Type} (m : Option α) : Prop := sat m fun _ => True
theorem tmk {α : Type} (x : α) : tot (some x) := ⟨x, rfl, trivial⟩
theorem tbind {α β : Type} {m : Option α} {f : α → Option β} (h : tot m) (k : ∀ r, tot (f r)) : tot (m.bind f) := i_call h fun r _ => k r
theorem tcond {α : Type} {c : Bool} {A B : Option α} (h : c = true → tot A) (k : c = false → tot B) : tot (cond c A B) := i_cond h k
theorem tsb {τ ο : Type} {A : Option (Sum τ ο)} {K : ο → Option τ} (h : tot A) (k : ∀ x, tot (K x)) : tot (sbind A K) :=
 i_sbind (sat_mono h fun o _ => by cases o with
  | inl t => exact trivial
  | inr o => exact k o)
theorem tlft {τ ο : Type} {m : Option τ} (h : tot m) : tot (lft (ο := ο) m) := i_lft h
theorem or_s (l : LI) : tot (f53_Or l) := by
 have hL : ∀ (l : LI) j, tot (f53_Or_L2 l j) := by
  intro l
  induction l with
  | nil => exact fun j => tmk _
  | cons x l ih =>
   intro j
   unfold f53_Or_L2
   exact tcond (fun _ => tlft (tmk _)) fun _ => ih _
 unfold f53_Or
 exact tsb (hL _ _) fun _ => tmk _
theorem cmpi_s (a b : Int) : tot (f38_Compare a b) := by
 have hN : ∀ a, tot (f59_isNaN a) := fun a => by
  unfold f59_isNaN
  exact tcond (fun _ => tmk _) fun _ => tmk _
 unfold f38_Compare
 exact tbind (hN _) fun _ => tbind (hN _) fun _ => tcond (fun _ => tcond (fun _ => tmk _) fun _ => tmk _) fun _ => tcond (fun _ => tmk _) fun _ => tcond (fun _ => tmk _) fun _ => tcond (fun _ => tmk _) fun _ => tmk _
theorem cmps_s (a b : BA) : tot (f54_Compare a b) := ⟨_, rfl, trivial⟩
theorem order_s (a : Int) : tot (f52_order a) := by
 unfold f52_order
 exact tcond (fun _ => tmk _) fun _ => tmk _
theorem cmp_s : ∀ (k n : Nat) (a b : V), 3 * k ≤ n → VD k a → tot (f34_Cmp n a b)
 | 0, n, a, b, hn, h => h.elim
 | k + 1, n, a, b, hn, h => by
  obtain ⟨n, rfl⟩ : ∃ m, n = m + 3 := ⟨n - 3, by omega⟩
  obtain ⟨k1, n1, s1, f1⟩ := a
  obtain ⟨k2, n2, s2, f2⟩ := b
  have hE : ∀ (x y : BA × V), VD k x.2 → tot (f56_1 (n + 1) x y) := by
   rintro ⟨a, ⟨k1, n1, s1, f1⟩⟩ ⟨b, ⟨k2, n2, s2, f2⟩⟩ hx
   show tot (b56_1 (f34_Cmp n) (a, .mk k1 n1 s1 f1) (b, .mk k2 n2 s2 f2))
   unfold b56_1
   exact tbind (cmps_s _ _) fun _ => tbind (cmp_s k n _ _ (by omega) hx) fun _ => tbind (or_s _) fun _ => tmk _
  have hL : ∀ (l : FV), (∀ x ∈ l, VD k x.2) → ∀ j, tot (f55_CompareFunc_L2 (f56_1 (n + 1)) f2 l j) := by
   intro l
   induction l with
   | nil => exact fun _ j => tmk _
   | cons x l ih =>
    intro hx j
    obtain ⟨a, ⟨k1, n1, s1, f1⟩⟩ := x
    unfold f55_CompareFunc_L2
    refine tcond (fun _ => tlft (tmk _)) fun hj => ?_
    have hj : (j : Int) < f2.length := by have := of_decide_eq_false hj; omega
    refine i_getL (by omega) hj fun u _ _ => ?_
    obtain ⟨b, ⟨k2, n2, s2, f2⟩⟩ := u
    exact tbind (hE _ _ (hx _ List.mem_cons_self)) fun _ => tcond (fun _ => tlft (tmk _)) fun _ => ih (fun x hx' => hx x (List.mem_cons_of_mem _ hx')) _
  have hF : tot (f55_CompareFunc (n + 2) f1 f2) := by
   show tot (b55_CompareFunc (f56_1 (n + 1)) _ _)
   unfold b55_CompareFunc
   exact tsb (hL f1 h 0) fun _ => tcond (fun _ => tmk _) fun _ => tmk _
  show tot (b34_Cmp (f55_CompareFunc (n + 2)) (.mk k1 n1 s1 f1) (.mk k2 n2 s2 f2))
  unfold b34_Cmp
  refine tsb (tcond (fun _ => tbind (order_s _) fun _ => tbind (order_s _) fun _ => tmk _) fun _ => tmk _) fun p => ?_
  exact tbind (cmpi_s _ _) fun _ => tbind (cmpi_s _ _) fun _ => tbind (cmps_s _ _) fun _ => tbind (or_s _) fun _ => tcond (fun _ => tmk _) fun _ => tbind hF fun _ => tmk _
theorem same_s {k n : Nat} {a b : V} (hn : 3 * k ≤ n) (h : VD k a) : tot (f11_Same n a b) := by
 obtain ⟨k1, n1, s1, f1⟩ := a
 obtain ⟨k2, n2, s2, f2⟩ := b
 unfold f11_Same
 exact tbind (cmp_s k n _ _ hn h) fun _ => tcond (fun _ => tmk _) fun _ => tmk _
theorem size_s : ∀ (k n : Nat) (x : V), k ≤ n → VD k x → tot (f75_Size n x)
 | 0, n, x, hn, h => h.elim
 | k + 1, n, x, hn, h => by
  obtain ⟨n, rfl⟩ : ∃ m, n = m + 1 := ⟨n - 1, by omega⟩
  obtain ⟨k1, n1, s1, f1⟩ := x
  have hL : ∀ (l : FV), (∀ x ∈ l, VD k x.2) → ∀ j v, tot (f75_Size_L2 (f75_Size n) l j v) := by
   intro l
   induction l with
   | nil => exact fun _ j v => tmk _
   | cons x l ih =>
    intro hx j v
    obtain ⟨a, ⟨k1, n1, s1, f1⟩⟩ := x
    unfold f75_Size_L2
    exact tbind (size_s k n _ (by omega) (hx _ List.mem_cons_self)) fun _ => ih (fun x hx' => hx x (List.mem_cons_of_mem _ hx')) _ _
  show tot (b75_Size (f75_Size n) _)
  unfold b75_Size
  exact tsb (hL f1 h _ _) fun _ => tmk _
theorem deep_s : ∀ (k n : Nat) (x : V), k ≤ n → VD k x → tot (f76_Deep n x)
 | 0, n, x, hn, h => h.elim
 | k + 1, n, x, hn, h => by
  obtain ⟨n, rfl⟩ : ∃ m, n = m + 1 := ⟨n - 1, by omega⟩
  obtain ⟨k1, n1, s1, f1⟩ := x
  have hL : ∀ (l : FV), (∀ x ∈ l, VD k x.2) → ∀ j v, tot (f76_Deep_L2 (f76_Deep n) l j v) := by
   intro l
   induction l with
   | nil => exact fun _ j v => tmk _
   | cons x l ih =>
    intro hx j v
    obtain ⟨a, ⟨k1, n1, s1, f1⟩⟩ := x
    unfold f76_Deep_L2
    exact tbind (deep_s k n _ (by omega) (hx _ List.mem_cons_self)) fun _ => ih (fun x hx' => hx x (List.mem_cons_of_mem _ hx')) _ _
  show tot (b76_Deep (f76_Deep n) _)
  unfold b76_Deep
  exact tsb (hL f1 h _ _) fun _ => tmk _
theorem name_s (s : BA) : tot (f132_Name s) := by
 have hL : ∀ (l : LI) j, tot (f132_Name_L2 l j) := by
  intro l
  induction l with
  | nil => exact fun j => tmk _
  | cons x l ih =>
   intro j
   unfold f132_Name_L2
   refine tsb (tcond (fun _ => tcond (fun _ => tmk _) fun _ => tmk _) fun _ => tmk _) fun _ => tsb (tcond (fun _ => tmk _) fun _ => tcond (fun _ => tcond (fun _ => tmk _) fun _ => tmk _) fun _ => tmk _) fun _ => tsb (tcond (fun _ => tmk _) fun _ => tcond (fun _ => tmk _) fun _ => tmk _) fun _ => tcond (fun _ => ih _) fun _ => tlft (tmk _)
 unfold f132_Name
 refine tcond (fun _ => tmk _) fun h0 => tcond (fun _ => tmk _) fun h => ?_
 have hle : s.size ≤ 16 := by have := of_decide_eq_false h; omega
 have hpos : 0 < s.size := by
  rcases Nat.eq_zero_or_pos s.size with h | h
  · exact absurd (ba_eq (List.eq_nil_of_length_eq_zero h)) (k_ne h0)
  · exact h
 exact i_getB' (by omega) (by omega) fun c _ => tcond (fun _ => tmk _) fun _ => i_getB' (by omega) (by omega) fun c _ => tcond (fun _ => tmk _) fun _ => tsb (i_grdP (by omega) (hL _ _)) fun _ => tmk _
theorem vnames_s (f : FV) : tot (f128_names f) := by
 have hI : ∀ (l : FV) a k n s g j, tot (f163_IndexFunc_L2 a k n s g l j) := by
  intro l a k n s g
  induction l with
  | nil => exact fun j => tmk _
  | cons x l ih =>
   intro j
   obtain ⟨a', ⟨k1, n1, s1, f1⟩⟩ := x
   unfold f163_IndexFunc_L2 f152_1
   exact tbind (tcond (fun _ => tmk _) fun _ => tmk _) fun _ => tcond (fun _ => tlft (tmk _)) fun _ => ih _
 have hL : ∀ (l : FV) (j : Nat), j + l.length ≤ f.length → tot (f128_names_L2 f l j) := by
  intro l
  induction l with
  | nil => exact fun j _ => tmk _
  | cons x l ih =>
   intro j hj
   obtain ⟨a', ⟨k1, n1, s1, f1⟩⟩ := x
   rw [List.length_cons] at hj
   unfold f128_names_L2
   refine tbind (name_s _) fun _ => tcond (fun _ => i_grdP ⟨by omega, by omega, by omega⟩ (tbind ?_ fun _ => tcond (fun _ => tlft (tmk _)) fun _ => ih _ (by omega))) fun _ => tlft (tmk _)
   unfold f151_ContainsFunc f163_IndexFunc
   exact tbind (tsb (hI _ _ _ _ _ _ _) fun _ => tmk _) fun _ => tcond (fun _ => tmk _) fun _ => tmk _
 unfold f128_names
 exact tsb (hL f 0 (by omega)) fun _ => tmk _
theorem keys_s (k n : Int) (s : BA) (f : FV) (hf : f.length ≤ 200) : tot (f129_keys (.mk k n s f)) := by
 have hL : ∀ (l : FV) (j : Nat), j + l.length ≤ f.length → tot (f129_keys_L2 k f l j) := by
  intro l
  induction l with
  | nil => exact fun j _ => tmk _
  | cons x l ih =>
   intro j hj
   obtain ⟨a', ⟨k1, n1, s1, f1⟩⟩ := x
   rw [List.length_cons] at hj
   have nx := ih (j + 1) (by omega)
   have ew : (j : Int) > 0 → wrap .i64 ((j : Int) - 1) = (j : Int) - 1 := fun h => wrap64 (by omega) (by omega)
   have gl : ∀ (c : BA → Bool), decide (((j : Nat) : Int) > 0) = true → tot (getL f (wrap .i64 (((j : Nat) : Int) - 1)) fun uu => match uu with | (a, .mk _ _ _ _) => cond (c a) (lft (some 9)) (f129_keys_L2 k f l (j + 1))) := by
    intro c hj0
    have hj0 := of_decide_eq_true hj0
    rw [ew hj0]
    refine i_getL (by omega) (by omega) fun u _ _ => ?_
    obtain ⟨a, ⟨k1, n1, s1, f1⟩⟩ := u
    exact tcond (fun _ => tlft (tmk _)) fun _ => nx
   unfold f129_keys_L2
   exact tcond (fun _ => tcond (fun _ => tlft (tmk _)) fun _ => tcond (fun _ => nx) fun _ => tcond (fun _ => tlft (tmk _)) fun _ => tcond (fun h => gl _ h) fun _ => nx) fun _ => tcond (fun _ => nx) fun _ => tcond (fun _ => tlft (tmk _)) fun _ => tcond (fun h => gl _ h) fun _ => nx
 unfold f129_keys
 exact tsb (hL f 0 (by omega)) fun _ => tmk _
end Go.Clap

set_option linter.unusedVariables false
set_option linter.unusedSimpArgs false
set_option maxRecDepth 100000
namespace Go.Clap
open Go.IntKind (wrap)
theorem unused_s (x : V) : tot (f99_unused x) := by
 obtain ⟨k, n, s, f⟩ := x
 have hS : tot (f127_Scalar k) := by
  unfold f127_Scalar
  exact tcond (fun _ => tcond (fun _ => tmk _) fun _ => tcond (fun _ => tmk _) fun _ => tmk _) fun _ => tcond (fun _ => tmk _) fun _ => tmk _
 unfold f99_unused
 repeat' first
  | exact tmk _
  | (refine tcond (fun _ => ?_) (fun _ => ?_))
  | (refine tsb ?_ (fun _ => ?_))
  | (refine tbind hS (fun _ => ?_))
theorem num_s (x : V) : tot (f100_number x) := by
 obtain ⟨k, n, s, f⟩ := x
 unfold f100_number
 repeat' first
  | exact tmk _
  | (refine tcond (fun _ => ?_) (fun _ => ?_))
theorem vfields_s (x : V) : tot (f101_fields x) := by
 obtain ⟨k, n, s, f⟩ := x
 have hl : decide (((f.length : Nat) : Int) > 200) = false → f.length ≤ 200 := fun h => by have := of_decide_eq_false h; omega
 unfold f101_fields
 exact tcond (fun _ => tcond (fun _ => tmk _) fun _ => tmk _) fun _ => tcond (fun _ => tcond (fun _ => tmk _) fun _ => tbind (vnames_s _) fun _ => tmk _) fun _ => tcond (fun _ => tcond (fun _ => tmk _) fun _ => tbind (vnames_s _) fun _ => tmk _) fun _ =>
  tcond (fun _ => tcond (fun _ => tmk _) fun h => tbind (keys_s _ _ _ _ (hl h)) fun _ => tmk _) fun _ => tcond (fun _ => tcond (fun _ => tmk _) fun h => tbind (keys_s _ _ _ _ (hl h)) fun _ => tmk _) fun _ => tmk _
theorem vnode_s : ∀ (k n : Nat) (x : V) (q : Bool), k ≤ n → VD k x → tot (f77_node n x q)
 | 0, n, x, q, hn, h => h.elim
 | k + 1, n, x, q, hn, h => by
  obtain ⟨n, rfl⟩ : ∃ m, n = m + 1 := ⟨n - 1, by omega⟩
  obtain ⟨k1, n1, s1, f1⟩ := x
  have hL : ∀ (l : FV), (∀ x ∈ l, VD k x.2) → ∀ j, tot (f77_node_L2 (f77_node n) l j) := by
   intro l
   induction l with
   | nil => exact fun _ j => tmk _
   | cons x l ih =>
    intro hx j
    obtain ⟨a, ⟨k1, n1, s1, f1⟩⟩ := x
    unfold f77_node_L2
    exact tbind (vnode_s k n _ _ (by omega) (hx _ List.mem_cons_self)) fun _ => tcond (fun _ => tlft (tmk _)) fun _ => ih (fun x hx' => hx x (List.mem_cons_of_mem _ hx')) _
  show tot (b77_node (f77_node n) (.mk k1 n1 s1 f1) q)
  unfold b77_node
  exact tsb (tcond (fun _ => tmk _) fun _ => tcond (fun _ => tmk _) fun _ => tmk _) fun _ => tsb (tcond (fun _ => tmk _) fun _ => tcond (fun _ => tmk _) fun _ => tmk _) fun _ => tsb (tcond (fun _ => tmk _) fun _ => tcond (fun _ => tcond (fun _ => tmk _) fun _ => tmk _) fun _ => tmk _) fun _ =>
   tsb (tcond (fun _ => tmk _) fun _ => tbind (unused_s _) fun _ => tmk _) fun _ => tcond (fun _ => tmk _) fun _ => tbind (num_s _) fun _ => tcond (fun _ => tbind (vfields_s _) fun _ => tcond (fun _ => tmk _) fun _ => tsb (hL f1 h 0) fun _ => tmk _) fun _ => tmk _
theorem vcheck_s {k n : Nat} {x : V} (hn : k ≤ n) (h : VD k x) : tot (f51_Check n x) := by
 have h1 := size_s k n x hn h
 have h2 := deep_s k n x hn h
 have h3 := vnode_s k n x true hn h
 obtain ⟨k1, n1, s1, f1⟩ := x
 unfold f51_Check
 exact tbind h1 fun _ => tcond (fun _ => tmk _) fun _ => tbind h2 fun _ => tcond (fun _ => tmk _) fun _ => tbind h3 fun _ => tmk _
theorem plain_s (k : Int) : tot (f158_Plain k) := by
 unfold f158_Plain
 repeat' first
  | exact tmk _
  | (refine tcond (fun _ => ?_) (fun _ => ?_))
  | (refine tsb ?_ (fun _ => ?_))
theorem lnames_s (l : LB) : tot (f159_names l) := by
 have hI : ∀ (l : LB) a j, tot (f174_Index_L2 a l j) := by
  intro l a
  induction l with
  | nil => exact fun j => tmk _
  | cons x l ih =>
   intro j
   unfold f174_Index_L2
   exact tcond (fun _ => tlft (tmk _)) fun _ => ih _
 have hL : ∀ (t : LB) (j : Nat), j + t.length ≤ l.length → tot (f159_names_L2 l t j) := by
  intro t
  induction t with
  | nil => exact fun j _ => tmk _
  | cons x t ih =>
   intro j hj
   rw [List.length_cons] at hj
   unfold f159_names_L2
   refine tbind (name_s _) fun _ => tcond (fun _ => i_grdP ⟨by omega, by omega, by omega⟩ (tbind ?_ fun _ => tcond (fun _ => tlft (tmk _)) fun _ => ih _ (by omega))) fun _ => tlft (tmk _)
   unfold f170_Contains f174_Index
   exact tbind (tsb (hI _ _ _) fun _ => tmk _) fun _ => tcond (fun _ => tmk _) fun _ => tmk _
 unfold f159_names
 exact tcond (fun _ => tmk _) fun _ => tsb (hL l 0 (by omega)) fun _ => tmk _
theorem two_cases {γ : Type} {i : Int} {A B : Option γ} (h0 : 0 ≤ i) (h1 : i < 2) (hA : tot A) (hB : tot B) : tot (caseI i [A, B]) := by
 have : i = 0 ∨ i = 1 := by omega
 rcases this with rfl | rfl
 · exact hA
 · exact hB
theorem l73_s {n : Nat} (hn : 200 ≤ n) {k1 n1 : Int} {s1 : BA} {f1 : FV} {k2 n2 : Int} {s2 : BA} {f2 : FV} (h1 : VD 42 (.mk k1 n1 s1 f1)) (h2 : VD 42 (.mk k2 n2 s2 f2)) {i : Int} (h0 : 0 ≤ i) (hi : i < 2) : ∀ (t : LW) (j : Nat), tot (f161_pairs_L73 n k1 n1 s1 f1 k2 n2 s2 f2 i t j)
 | [], j => tmk _
 | x :: t, j => by
  obtain ⟨⟨a1, a2, a3, a4⟩, ⟨b1, b2, b3, b4⟩⟩ := x
  unfold f161_pairs_L73
  exact two_cases h0 hi (tbind (same_s (k := 42) (by omega) h1) fun _ => tcond (fun _ => tlft (tlft (tlft (tmk _)))) fun _ => l73_s hn h1 h2 h0 hi t _) (tbind (same_s (k := 42) (by omega) h2) fun _ => tcond (fun _ => tlft (tlft (tlft (tmk _)))) fun _ => l73_s hn h1 h2 h0 hi t _)
theorem l74_s {n : Nat} (hn : 200 ≤ n) {k1 n1 : Int} {s1 : BA} {f1 : FV} {k2 n2 : Int} {s2 : BA} {f2 : FV} (h1 : VD 42 (.mk k1 n1 s1 f1)) (h2 : VD 42 (.mk k2 n2 s2 f2)) {i : Int} (h0 : 0 ≤ i) (hi : i < 2) : ∀ (t : LW) (j : Nat), tot (f161_pairs_L74 n k1 n1 s1 f1 k2 n2 s2 f2 i t j)
 | [], j => tmk _
 | x :: t, j => by
  obtain ⟨⟨a1, a2, a3, a4⟩, ⟨b1, b2, b3, b4⟩⟩ := x
  unfold f161_pairs_L74
  exact two_cases h0 hi (tbind (same_s (k := 42) (by omega) h1) fun _ => tcond (fun _ => tlft (tlft (tlft (tmk _)))) fun _ => l74_s hn h1 h2 h0 hi t _) (tbind (same_s (k := 42) (by omega) h2) fun _ => tcond (fun _ => tlft (tlft (tlft (tmk _)))) fun _ => l74_s hn h1 h2 h0 hi t _)
theorem l70_s {n : Nat} (hn : 200 ≤ n) {l : LW} {J : Nat} (hJ : J < l.length) {k1 n1 : Int} {s1 : BA} {f1 : FV} {k2 n2 : Int} {s2 : BA} {f2 : FV} (h1 : VD 42 (.mk k1 n1 s1 f1)) (h2 : VD 42 (.mk k2 n2 s2 f2)) : ∀ (g : Nat) (i : Int), 0 ≤ i → i + g = 2 → tot (f161_pairs_L70 n l J k1 n1 s1 f1 k2 n2 s2 f2 g i)
 | 0, i, _, _ => tmk _
 | g + 1, i, h0, hg => by
  have hi : i < 2 := by omega
  have nx := l70_s hn hJ h1 h2 g (i + 1) (by omega) (by omega)
  unfold f161_pairs_L70
  refine tsb (two_cases h0 hi ?_ ?_) fun _ => nx
  · refine tbind (vcheck_s (k := 42) (by omega) h1) fun _ => tcond (fun _ => tlft (tlft (tlft (tmk _)))) fun _ => tbind (plain_s _) fun _ => tcond (fun _ => i_getL (by omega) (by omega) fun u _ _ => ?_) fun _ => tlft (tlft (tlft (tmk _)))
    obtain ⟨⟨a1, a2, a3, a4⟩, ⟨b1, b2, b3, b4⟩⟩ := u
    exact tcond (fun _ => tlft (tlft (tlft (tmk _)))) fun _ => i_grdP ⟨by omega, by omega, by omega⟩ (l73_s hn h1 h2 h0 hi _ _)
  · refine tbind (vcheck_s (k := 42) (by omega) h2) fun _ => tcond (fun _ => tlft (tlft (tlft (tmk _)))) fun _ => tbind (plain_s _) fun _ => tcond (fun _ => i_getL (by omega) (by omega) fun u _ _ => ?_) fun _ => tlft (tlft (tlft (tmk _)))
    obtain ⟨⟨a1, a2, a3, a4⟩, ⟨b1, b2, b3, b4⟩⟩ := u
    exact tcond (fun _ => tlft (tlft (tlft (tmk _)))) fun _ => i_grdP ⟨by omega, by omega, by omega⟩ (l74_s hn h1 h2 h0 hi _ _)
theorem lpairs_s {n : Nat} (hn : 200 ≤ n) (l : LW) (h : ∀ p ∈ l, VD 42 p.1 ∧ VD 42 p.2) : tot (f161_pairs n l) := by
 have hL : ∀ (t : LW) (j : Nat), j + t.length ≤ l.length → (∀ p ∈ t, VD 42 p.1 ∧ VD 42 p.2) → tot (f161_pairs_L56 n l t j) := by
  intro t
  induction t with
  | nil => exact fun j _ _ => tmk _
  | cons x t ih =>
   intro j hj hp
   obtain ⟨⟨a1, a2, a3, a4⟩, ⟨b1, b2, b3, b4⟩⟩ := x
   rw [List.length_cons] at hj
   have hx := hp _ List.mem_cons_self
   unfold f161_pairs_L56
   exact tsb (i_grdP (by omega) (l70_s hn (by omega) hx.1 hx.2 _ 0 (by omega) (by decide))) fun _ => ih _ (by omega) fun p hp' => hp p (List.mem_cons_of_mem _ hp')
 unfold f161_pairs
 exact tcond (fun _ => tmk _) fun _ => tcond (fun _ => tmk _) fun _ => tsb (hL l 0 (by omega) h) fun _ => tmk _
theorem special_s {k n : Nat} (hn : 1200 ≤ n) {x : Ln} (h : LnD k x) : tot (f145_special n x) := by
 obtain ⟨op, nm', to, ns, N, lo, hi, sep, ⟨k1, n1, s1, f1⟩, prs, ks⟩ := x
 cases k with
 | zero => exact h.elim
 | succ k =>
  have hL : ∀ (t : LB) j, tot (f145_special_L2 n t j) := by
   intro t
   induction t with
   | nil => exact fun j => tmk _
   | cons x t ih =>
    intro j
    unfold f145_special_L2
    exact tbind (check_t x hn) fun _ => tcond (fun _ => tlft (tmk _)) fun _ => ih _
  unfold f145_special
  exact tsb (tcond (fun _ => tcond (fun _ => tbind (plain_s _) fun _ => tcond (fun _ => tmk _) fun _ => tlft (tmk _)) fun _ => tmk _) fun _ => tcond (fun _ => tbind (plain_s _) fun _ => tcond (fun _ => tmk _) fun _ => tlft (tmk _)) fun _ => tcond (fun _ => tbind (lnames_s _) fun _ => tlft (tmk _)) fun _ =>
   tcond (fun _ => tcond (fun _ => tlft (tmk _)) fun _ => tbind (lnames_s _) fun _ => tlft (tmk _)) fun _ => tcond (fun _ => tcond (fun _ => tlft (tmk _)) fun _ => hL _ _) fun _ => tcond (fun _ => tbind (lpairs_s (by omega) _ h.2.1) fun _ => tlft (tmk _)) fun _ =>
   tcond (fun _ => tcond (fun _ => tlft (tmk _)) fun _ => tcond (fun _ => tlft (tmk _)) fun _ => tcond (fun _ => tlft (tmk _)) fun _ => tmk _) fun _ => tmk _) fun _ => tmk _
theorem lnode_s {k n : Nat} (hn : 1200 ≤ n) {x : Ln} (h : LnD k x) : tot (f116_Node n x) := by
 have hsp := special_s hn h
 obtain ⟨op, nm', to, ns, N, lo, hi, sep, ⟨k1, n1, s1, f1⟩, prs, ks⟩ := x
 cases k with
 | zero => exact h.elim
 | succ k =>
  have hv : VD 42 (.mk k1 n1 s1 f1) := h.1
  have hchk := vcheck_s (k := 42) (n := n) (by omega) hv
  have hsame := same_s (k := 42) (n := n) (b := V.mk 0 0 (⟨#[]⟩ : BA) []) (by omega) hv
  obtain ⟨⟨t1, t2, t3, t4, t5, t6, t7, t8, t9⟩, ht⟩ := table_s op
  have htab : tot (f144_table op) := ⟨_, ht, trivial⟩
  unfold f116_Node
  repeat' first
   | exact tmk _
   | exact tlft (tmk _)
   | (refine tcond (fun _ => ?_) (fun _ => ?_))
   | (refine tbind htab (fun _ => ?_))
   | (refine tbind hchk (fun _ => ?_))
   | (refine tbind hsp (fun _ => ?_))
   | (refine tbind hsame (fun _ => ?_))
   | (refine tbind (name_s _) (fun _ => ?_))
   | (refine tsb ?_ (fun _ => ?_))
theorem lsize_s : ∀ (k n : Nat) (x : Ln), k ≤ n → LnD k x → tot (f94_Size n x)
 | 0, n, x, hn, h => h.elim
 | k + 1, n, x, hn, h => by
  obtain ⟨n, rfl⟩ : ∃ m, n = m + 1 := ⟨n - 1, by omega⟩
  obtain ⟨op, nm', to, ns, N, lo, hi, sep, ⟨k1, n1, s1, f1⟩, prs, ks⟩ := x
  have hL : ∀ (l : List Ln), (∀ x ∈ l, LnD k x) → ∀ j v, tot (f94_Size_L2 (f94_Size n) l j v) := by
   intro l
   induction l with
   | nil => exact fun _ j v => tmk _
   | cons x l ih =>
    intro hx j v
    obtain ⟨op, nm', to, ns, N, lo, hi, sep, ⟨k1, n1, s1, f1⟩, prs, ks⟩ := x
    unfold f94_Size_L2
    exact tbind (lsize_s k n _ (by omega) (hx _ List.mem_cons_self)) fun _ => ih (fun x hx' => hx x (List.mem_cons_of_mem _ hx')) _ _
  show tot (b94_Size (f94_Size n) (.mk op nm' to ns N lo hi sep (.mk k1 n1 s1 f1) prs ks))
  unfold b94_Size
  exact tsb (hL ks h.2.2 _ _) fun _ => tmk _
theorem ldeep_s : ∀ (k n : Nat) (x : Ln), k ≤ n → LnD k x → tot (f95_Deep n x)
 | 0, n, x, hn, h => h.elim
 | k + 1, n, x, hn, h => by
  obtain ⟨n, rfl⟩ : ∃ m, n = m + 1 := ⟨n - 1, by omega⟩
  obtain ⟨op, nm', to, ns, N, lo, hi, sep, ⟨k1, n1, s1, f1⟩, prs, ks⟩ := x
  have hL : ∀ (l : List Ln), (∀ x ∈ l, LnD k x) → ∀ j v, tot (f95_Deep_L2 (f95_Deep n) l j v) := by
   intro l
   induction l with
   | nil => exact fun _ j v => tmk _
   | cons x l ih =>
    intro hx j v
    obtain ⟨op, nm', to, ns, N, lo, hi, sep, ⟨k1, n1, s1, f1⟩, prs, ks⟩ := x
    unfold f95_Deep_L2
    exact tbind (ldeep_s k n _ (by omega) (hx _ List.mem_cons_self)) fun _ => ih (fun x hx' => hx x (List.mem_cons_of_mem _ hx')) _ _
  show tot (b95_Deep (f95_Deep n) (.mk op nm' to ns N lo hi sep (.mk k1 n1 s1 f1) prs ks))
  unfold b95_Deep
  exact tsb (hL ks h.2.2 _ _) fun _ => tmk _
theorem walk_s : ∀ (k n : Nat) (x : Ln), 1200 + k ≤ n → LnD k x → tot (f96_walk n x)
 | 0, n, x, hn, h => h.elim
 | k + 1, n, x, hn, h => by
  obtain ⟨n, rfl⟩ : ∃ m, n = m + 1 := ⟨n - 1, by omega⟩
  have hN := lnode_s (n := n) (by omega) h
  obtain ⟨op, nm', to, ns, N, lo, hi, sep, ⟨k1, n1, s1, f1⟩, prs, ks⟩ := x
  have hL : ∀ (l : List Ln), (∀ x ∈ l, LnD k x) → ∀ j, tot (f96_walk_L2 (f96_walk n) l j) := by
   intro l
   induction l with
   | nil => exact fun _ j => tmk _
   | cons x l ih =>
    intro hx j
    obtain ⟨op, nm', to, ns, N, lo, hi, sep, ⟨k1, n1, s1, f1⟩, prs, ks⟩ := x
    unfold f96_walk_L2
    exact tbind (walk_s k n _ (by omega) (hx _ List.mem_cons_self)) fun _ => tcond (fun _ => tlft (tmk _)) fun _ => ih (fun x hx' => hx x (List.mem_cons_of_mem _ hx')) _
  show tot (b96_walk n (f96_walk n) (.mk op nm' to ns N lo hi sep (.mk k1 n1 s1 f1) prs ks))
  unfold b96_walk
  exact tbind hN fun _ => tcond (fun _ => tmk _) fun _ => tsb (hL ks h.2.2 0) fun _ => tmk _
theorem lcheck_s {k n : Nat} (hn : 1200 + k ≤ n) {x : Ln} (h : LnD k x) : tot (f70_Check n x) := by
 have h1 := lsize_s k n x (by omega) h
 have h2 := ldeep_s k n x (by omega) h
 have h3 := walk_s k n x hn h
 obtain ⟨op, nm', to, ns, N, lo, hi, sep, ⟨k1, n1, s1, f1⟩, prs, ks⟩ := x
 unfold f70_Check
 exact tbind h1 fun _ => tcond (fun _ => tmk _) fun _ => tbind h2 fun _ => tcond (fun _ => tmk _) fun _ => tbind h3 fun _ => tmk _
end Go.Clap
