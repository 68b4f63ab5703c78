/- The checks of the small code against the loaded functions. -/
import Derived.Test.YtnielhfaioakkaaGreatClapM9
set_option linter.unusedVariables false
set_option linter.unusedSimpArgs false
set_option maxRecDepth 100000
namespace Go.Clap
def E {α : Type} (a b : Option α) : Prop := ∃ r, a = some r ∧ b = some r
section
variable {α β τ ο : Type}
theorem E.s (x : α) : E (some x) (some x) := ⟨x, rfl, rfl⟩
theorem E.of {m : Option α} {R : α → Prop} (h : sat m R) : E m m := by obtain ⟨r, h, _⟩ := h; exact ⟨r, h, h⟩
theorem E.c {c : Bool} {A A' B B' : Option α} (h : E A A') (k : E B B') : E (cond c A B) (cond c A' B') := by cases c <;> assumption
theorem E.ch {c : Bool} {A A' B B' : Option α} (h : c = true → E A A') (k : c = false → E B B') : E (cond c A B) (cond c A' B') := by
 cases c
 · exact k rfl
 · exact h rfl
theorem E.b {m m' : Option α} {f f' : α → Option β} (h : E m m') (k : ∀ r, E (f r) (f' r)) : E (m.bind f) (m'.bind f') := by
 obtain ⟨r, rfl, rfl⟩ := h
 exact k r
theorem E.sb {m m' : Option (Sum τ ο)} {f f' : ο → Option τ} (h : E m m') (k : ∀ r, E (f r) (f' r)) : E (sbind m f) (sbind m' f') := by
 obtain ⟨r, rfl, rfl⟩ := h
 cases r with
 | inl t => exact ⟨t, rfl, rfl⟩
 | inr o => exact k o
theorem E.l {m m' : Option τ} (h : E m m') : E (lft m : Option (Sum τ ο)) (lft m') := by
 obtain ⟨r, rfl, rfl⟩ := h
 exact ⟨_, rfl, rfl⟩
theorem E.g {p : Prop} [Decidable p] {m m' : Option α} (hp : p) (h : E m m') : E (grdP p m) (grdP p m') := by
 unfold grdP; rw [if_pos hp, if_pos hp]; exact h
theorem E.get {xs : List α} {i : Int} {f f' : α → Option β} (h0 : 0 ≤ i) (hi : i < xs.length) (h : ∀ u, u ∈ xs → E (f u) (f' u)) : E (getL xs i f) (getL xs i f') := by
 unfold getL
 rw [if_pos h0, if_pos h0, List.getElem?_eq_getElem (by omega)]
 exact h _ (List.getElem_mem (by omega))
end
theorem n_toList_nil : (⟨#[]⟩ : ByteArray).toList = [] := by
 rw [ByteArray.toList, ByteArray.toList.loop, if_neg (by simp [ByteArray.size])]
 rfl
theorem n_toList_pos {s : ByteArray} (h : (s.toList == (⟨#[]⟩ : ByteArray).toList) = false) : 0 < s.size := by
 rcases Nat.eq_zero_or_pos s.size with h0 | h0
 · exfalso
   rw [n_toList_nil] at h
   have : s.toList = [] := by
    rw [ByteArray.toList, ByteArray.toList.loop, if_neg (by omega)]
    rfl
   rw [this] at h
   cases h
 · exact h0
theorem n_i_getB {β : Type} {s : ByteArray} {i : Int} {f : UInt8 → Option β} {R : β → Prop} (h0 : 0 ≤ i) (hi : i < s.size) (h : ∀ u, s.data[i.toNat]? = some u → sat (f u) R) : sat (getB s i f) R := by
 unfold getB
 have hi' : i.toNat < s.data.size := by have : s.size = s.data.size := rfl; omega
 rw [if_pos h0, Array.getElem?_eq_getElem hi']
 exact h _ (Array.getElem?_eq_getElem hi')
theorem n_nameL_tot : ∀ (l : List Int) (j : Nat), sat (f132_L2 l j) fun _ => True
 | [], j => sat_mk trivial
 | c :: tl, j => by
  unfold f132_L2
  have hb : ∀ (b : Bool), sat (cond b (f132_L2 tl (j + 1)) (lft (some false))) fun _ => True := fun b => i_cond (fun _ => n_nameL_tot tl (j + 1)) (fun _ => i_lft (sat_mk trivial))
  have h1 : ∀ (m : Option (Sum (Sum Bool Unit) Bool)) (K : Bool → Option (Sum Bool Unit)), (∀ b, sat (K b) fun _ => True) → sat m (fun o => ∃ b, o = .inr b) → sat (sbind m K) fun _ => True := by
   intro m K hK hm
   refine i_sbind (sat_mono hm ?_)
   rintro _ ⟨b, rfl⟩
   exact hK b
  refine h1 _ _ (fun b => h1 _ _ (fun b => h1 _ _ hb ?_) ?_) ?_
  all_goals repeat' first | exact sat_mk ⟨_, rfl⟩ | refine i_cond (fun _ => ?_) (fun _ => ?_)
theorem n_Name_tot (s : ByteArray) : sat (f132 s) fun _ => True := by
 unfold f132
 refine i_cond (fun _ => sat_mk trivial) (fun h => i_cond (fun _ => sat_mk trivial) (fun h16 => ?_))
 have hp := n_toList_pos h
 have h16 : ¬ (s.size : Int) > 16 := by simpa using h16
 refine n_i_getB (by omega) (by omega) fun u _ => i_cond (fun _ => sat_mk trivial) (fun _ => n_i_getB (by omega) (by omega) fun u _ => i_cond (fun _ => sat_mk trivial) (fun _ => i_sbind (i_grdP (by omega) (sat_mono (n_nameL_tot _ _) ?_))))
 rintro (b | b) _
 · trivial
 · exact sat_mk trivial
theorem e_name (s : BA) : E (f132 s) (f132 s) := .of (n_Name_tot s)
theorem e_unused (v : V) : E (f99 v) (f99 v) := by
 have h : ∀ k : Int, E (f127 k) (f127 k) := fun k => by unfold f127; (repeat' (first | exact E.s _ | assumption | refine E.c ?_ ?_ | refine E.b ?_ (fun _ => ?_) | refine E.sb ?_ (fun _ => ?_) | refine E.l ?_ | dsimp only))
 obtain ⟨k, n, s, f⟩ := v
 have h := h k
 unfold f99
 (repeat' (first | exact E.s _ | assumption | refine E.c ?_ ?_ | refine E.b ?_ (fun _ => ?_) | refine E.sb ?_ (fun _ => ?_) | refine E.l ?_ | dsimp only))
theorem e_number (v : V) : E (f100 v) (f100 v) := by
 obtain ⟨k, n, s, f⟩ := v
 unfold f100
 (repeat' (first | exact E.s _ | assumption | refine E.c ?_ ?_ | refine E.b ?_ (fun _ => ?_) | refine E.sb ?_ (fun _ => ?_) | refine E.l ?_ | dsimp only))
theorem e_names (l : FV) : E (f128 l) (f128 l) := by
 have h2 : ∀ (l : FV) (s : BA) (a b : Int) (c : BA) (d : FV), E (f163 l s a b c d) (f163 l s a b c d) := by
  intro l s a b c d
  have : ∀ (l : FV) (j : Nat), E (f163_L2 s a b c d l j) (f163_L2 s a b c d l j) := by
   intro l
   induction l with
   | nil => exact fun j => E.s _
   | cons x l ih =>
    intro j
    have ih := ih (j + 1)
    obtain ⟨nm, ⟨⟩⟩ := x
    exact .b (by unfold f152; (repeat' (first | exact E.s _ | assumption | refine E.c ?_ ?_ | refine E.b ?_ (fun _ => ?_) | refine E.sb ?_ (fun _ => ?_) | refine E.l ?_ | dsimp only))) fun q => .c (.l (.s _)) ih
  have := this l 0
  unfold f163
  (repeat' (first | exact E.s _ | assumption | refine E.c ?_ ?_ | refine E.b ?_ (fun _ => ?_) | refine E.sb ?_ (fun _ => ?_) | refine E.l ?_ | dsimp only))
 have h1 : ∀ (x : FV) (j : Nat), j + x.length ≤ l.length → E (f128_L2 l x j) (f128_L2 l x j) := by
  intro x
  induction x with
  | nil => exact fun j _ => E.s _
  | cons y x ih =>
   intro j hj
   rw [List.length_cons] at hj
   have ih := ih (j + 1) (by omega)
   obtain ⟨nm, ⟨⟩⟩ := y
   refine .b (e_name nm) fun q => .c (.g (by omega) (.b ?_ fun q => .c (.l (.s _)) ih)) (.l (.s _))
   have := h2
   unfold f151
   exact .b (h2 _ _ _ _ _ _) fun _ => by (repeat' (first | exact E.s _ | assumption | refine E.c ?_ ?_ | refine E.b ?_ (fun _ => ?_) | refine E.sb ?_ (fun _ => ?_) | refine E.l ?_ | dsimp only))
 have := h1 l 0 (by omega)
 unfold f128
 (repeat' (first | exact E.s _ | assumption | refine E.c ?_ ?_ | refine E.b ?_ (fun _ => ?_) | refine E.sb ?_ (fun _ => ?_) | refine E.l ?_ | dsimp only))
theorem e_keys (k n : Int) (s : BA) (fs : FV) (h : fs.length ≤ 1000) : E (f129 (.mk k n s fs)) (f129 (.mk k n s fs)) := by
 have h1 : ∀ (x : FV) (j : Nat), j + x.length = fs.length → E (f129_L2 k fs x j) (f129_L2 k fs x j) := by
  intro x
  induction x with
  | nil => exact fun j _ => E.s _
  | cons y x ih =>
   intro j hj
   rw [List.length_cons] at hj
   have ih := ih (j + 1) (by omega)
   obtain ⟨nm, ⟨⟩⟩ := y
   have hg : ∀ (f : BA × V → Option (Sum Int Unit)), (∀ u, E (f u) (f u)) → E (cond (decide (((j : Nat) : Int) > 0)) (getL fs (IntKind.wrap .i64 (((j : Nat) : Int) - 1)) f) (f129_L2 k fs x (j + 1))) (cond (decide (((j : Nat) : Int) > 0)) (getL fs (IntKind.wrap .i64 (((j : Nat) : Int) - 1)) f) (f129_L2 k fs x (j + 1))) := fun f hf => .ch (fun c => by
    have c : 0 < (j : Int) := by simpa using c
    rw [wrap_id (by omega) (by omega)]
    exact .get (by omega) (by omega) fun u _ => hf u) fun _ => ih
   unfold f129_L2
   refine .c (.c (.l (.s _)) (.c ih (.c (.l (.s _)) (hg _ fun u => ?_)))) (.c ih (.c (.l (.s _)) (hg _ fun u => ?_)))
   all_goals
    obtain ⟨a, ⟨⟩⟩ := u
    exact .c (.l (.s _)) ih
 have := h1 fs 0 (by omega)
 unfold f129
 (repeat' (first | exact E.s _ | assumption | refine E.c ?_ ?_ | refine E.b ?_ (fun _ => ?_) | refine E.sb ?_ (fun _ => ?_) | refine E.l ?_ | dsimp only))
theorem e_fields (k n : Int) (s : BA) (fs : FV) (h : fs.length ≤ 1000) : E (f101 (.mk k n s fs)) (f101 (.mk k n s fs)) := by
 have h1 := e_names fs
 have h2 := e_keys k n s fs h
 unfold f101
 (repeat' (first | exact E.s _ | assumption | refine E.c ?_ ?_ | refine E.b ?_ (fun _ => ?_) | refine E.sb ?_ (fun _ => ?_) | refine E.l ?_ | dsimp only))
theorem e_size : ∀ (k n m : Nat), k ≤ n → k ≤ m → ∀ v, WV k v → E (f75 n v) (f75 m v)
 | 0, _, _, _, _, v, h => by cases h
 | k + 1, n, m, hn, hm, v, h => by
  obtain ⟨n, rfl⟩ : ∃ a, n = a + 1 := ⟨n - 1, by omega⟩
  obtain ⟨m, rfl⟩ : ∃ a, m = a + 1 := ⟨m - 1, by omega⟩
  cases h with
  | mk kd x s fs h1 h =>
  have : ∀ (l : FV), (∀ x, x ∈ l → WV k x.2) → ∀ (j : Nat) (a : Int), E (f75_L2 (f75 n) l j a) (f75_L2 (f75 m) l j a) := by
   intro l
   induction l with
   | nil => exact fun _ j a => E.s _
   | cons y l ih =>
    intro hl j a
    obtain ⟨nm, ⟨⟩⟩ := y
    exact .b (e_size k n m (by omega) (by omega) _ (hl _ List.mem_cons_self)) fun r => ih (fun x hx => hl x (List.mem_cons_of_mem _ hx)) _ _
  exact .sb (this fs h 0 1) fun r => .s _
theorem e_deep : ∀ (k n m : Nat), k ≤ n → k ≤ m → ∀ v, WV k v → E (f76 n v) (f76 m v)
 | 0, _, _, _, _, v, h => by cases h
 | k + 1, n, m, hn, hm, v, h => by
  obtain ⟨n, rfl⟩ : ∃ a, n = a + 1 := ⟨n - 1, by omega⟩
  obtain ⟨m, rfl⟩ : ∃ a, m = a + 1 := ⟨m - 1, by omega⟩
  cases h with
  | mk kd x s fs h1 h =>
  have : ∀ (l : FV), (∀ x, x ∈ l → WV k x.2) → ∀ (j : Nat) (a : Int), E (f76_L2 (f76 n) l j a) (f76_L2 (f76 m) l j a) := by
   intro l
   induction l with
   | nil => exact fun _ j a => E.s _
   | cons y l ih =>
    intro hl j a
    obtain ⟨nm, ⟨⟩⟩ := y
    exact .b (e_deep k n m (by omega) (by omega) _ (hl _ List.mem_cons_self)) fun r => ih (fun x hx => hl x (List.mem_cons_of_mem _ hx)) _ _
  exact .sb (this fs h 0 0) fun r => .s _
theorem e_vnode : ∀ (k n m : Nat), k ≤ n → k ≤ m → ∀ v, WV k v → ∀ q, E (f77 n v q) (f77 m v q)
 | 0, _, _, _, _, v, h, q => by cases h
 | k + 1, n, m, hn, hm, v, h, q => by
  obtain ⟨n, rfl⟩ : ∃ a, n = a + 1 := ⟨n - 1, by omega⟩
  obtain ⟨m, rfl⟩ : ∃ a, m = a + 1 := ⟨m - 1, by omega⟩
  cases h with
  | mk kd x s fs h1 h =>
  have hL : ∀ (l : FV), (∀ x, x ∈ l → WV k x.2) → ∀ (j : Nat), E (f77_L2 (f77 n) l j) (f77_L2 (f77 m) l j) := by
   intro l
   induction l with
   | nil => exact fun _ j => E.s _
   | cons y l ih =>
    intro hl j
    obtain ⟨nm, ⟨⟩⟩ := y
    exact .b (e_vnode k n m (by omega) (by omega) _ (hl _ List.mem_cons_self) false) fun r => .c (.l (.s _)) (ih (fun x hx => hl x (List.mem_cons_of_mem _ hx)) _)
  have hL := hL fs h 0
  have a1 := e_unused (.mk kd x s fs)
  have a2 := e_number (.mk kd x s fs)
  have a3 := e_fields kd x s fs (by omega)
  show E (b77 (f77 n) (.mk kd x s fs) q) (b77 (f77 m) (.mk kd x s fs) q)
  unfold b77
  (repeat' (first | exact E.s _ | assumption | refine E.c ?_ ?_ | refine E.b ?_ (fun _ => ?_) | refine E.sb ?_ (fun _ => ?_) | refine E.l ?_ | dsimp only))
theorem e_vcheck (n m : Nat) (hn : 100 ≤ n) (hm : 100 ≤ m) (v : V) (h : WV 100 v) : E (f51 n v) (f51 m v) := by
 have a1 := e_size 100 n m hn hm v h
 have a2 := e_deep 100 n m hn hm v h
 have a3 := e_vnode 100 n m hn hm v h true
 obtain ⟨k, x, s, fs⟩ := v
 unfold f51
 (repeat' (first | exact E.s _ | assumption | refine E.c ?_ ?_ | refine E.b ?_ (fun _ => ?_) | refine E.sb ?_ (fun _ => ?_) | refine E.l ?_ | dsimp only))
theorem e_compare (a b : Int) : E (f38 a b) (f38 a b) := by
 have h : ∀ x : Int, E (f59 x) (f59 x) := fun x => by unfold f59; (repeat' (first | exact E.s _ | assumption | refine E.c ?_ ?_ | refine E.b ?_ (fun _ => ?_) | refine E.sb ?_ (fun _ => ?_) | refine E.l ?_ | dsimp only))
 have h1 := h a
 have h2 := h b
 unfold f38
 (repeat' (first | exact E.s _ | assumption | refine E.c ?_ ?_ | refine E.b ?_ (fun _ => ?_) | refine E.sb ?_ (fun _ => ?_) | refine E.l ?_ | dsimp only))
theorem e_or (l : LI) : E (f53 l) (f53 l) := by
 have : ∀ (l : LI) (j : Nat), E (f53_L2 l j) (f53_L2 l j) := by
  intro l
  induction l with
  | nil => exact fun j => E.s _
  | cons x l ih => exact fun j => .c (.l (.s _)) (ih _)
 have := this l 0
 unfold f53
 (repeat' (first | exact E.s _ | assumption | refine E.c ?_ ?_ | refine E.b ?_ (fun _ => ?_) | refine E.sb ?_ (fun _ => ?_) | refine E.l ?_ | dsimp only))
theorem e_cmpS (a b : BA) : E (f54 a b) (f54 a b) := ⟨_, rfl, rfl⟩
theorem e_cmp : ∀ (k n m : Nat), 3 * k ≤ n → 3 * k ≤ m → ∀ v, WV k v → ∀ w, E (f34 n v w) (f34 m v w)
 | 0, _, _, _, _, v, h, w => by cases h
 | k + 1, n, m, hn, hm, v, h, w => by
  obtain ⟨n, rfl⟩ : ∃ a, n = a + 1 + 1 + 1 := ⟨n - 3, by omega⟩
  obtain ⟨m, rfl⟩ : ∃ a, m = a + 1 + 1 + 1 := ⟨m - 3, by omega⟩
  cases h with
  | mk kd x s fs h1 h =>
  obtain ⟨k5, n6, s7, gs⟩ := w
  have hL : ∀ (l : FV), (∀ x, x ∈ l → WV k x.2) → ∀ (j : Nat), E (f55_L2 (b56 (f34 n)) gs l j) (f55_L2 (b56 (f34 m)) gs l j) := by
   intro l
   induction l with
   | nil => exact fun _ j => E.s _
   | cons y l ih =>
    intro hl j
    obtain ⟨nm, ⟨⟩⟩ := y
    refine .ch (fun _ => .l (.s _)) fun c => .get (by omega) (by simp at c; omega) fun u _ => ?_
    obtain ⟨a, ⟨⟩⟩ := u
    refine .b ?_ fun r => .c (.l (.s _)) (ih (fun x hx => hl x (List.mem_cons_of_mem _ hx)) _)
    unfold b56
    dsimp only
    refine .b (e_cmpS _ _) fun r => .b (e_cmp k n m (by omega) (by omega) _ (hl _ List.mem_cons_self) _) fun r => .b (e_or _) fun r => .s _
  have hL := hL fs h 0
  have hC : E (b55 (b56 (f34 n)) fs gs) (b55 (b56 (f34 m)) fs gs) := by
   unfold b55
   (repeat' (first | exact E.s _ | assumption | refine E.c ?_ ?_ | refine E.b ?_ (fun _ => ?_) | refine E.sb ?_ (fun _ => ?_) | refine E.l ?_ | dsimp only))
  show E (b34 (b55 (b56 (f34 n))) (.mk kd x s fs) (.mk k5 n6 s7 gs)) (b34 (b55 (b56 (f34 m))) (.mk kd x s fs) (.mk k5 n6 s7 gs))
  unfold b34
  refine .sb (by unfold f52; (repeat' (first | exact E.s _ | assumption | refine E.c ?_ ?_ | refine E.b ?_ (fun _ => ?_) | refine E.sb ?_ (fun _ => ?_) | refine E.l ?_ | dsimp only))) fun r => ?_
  dsimp only
  refine .b (e_compare _ _) fun _ => .b (e_compare _ _) fun _ => .b (e_cmpS _ _) fun _ => .b (e_or _) fun _ => .c (.s _) (.b hC fun _ => .s _)
theorem e_same (n m : Nat) (hn : 300 ≤ n) (hm : 300 ≤ m) (v w : V) (h : WV 100 v) : E (f11 n v w) (f11 m v w) := by
 have := e_cmp 100 n m hn hm v h w
 obtain ⟨⟩ := v
 obtain ⟨⟩ := w
 unfold f11
 (repeat' (first | exact E.s _ | assumption | refine E.c ?_ ?_ | refine E.b ?_ (fun _ => ?_) | refine E.sb ?_ (fun _ => ?_) | refine E.l ?_ | dsimp only))
end Go.Clap
