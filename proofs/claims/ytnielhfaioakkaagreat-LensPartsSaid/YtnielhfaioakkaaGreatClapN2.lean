/- The checks of the small code against the loaded functions. -/
import Derived.Test.YtnielhfaioakkaaGreatClapN1
set_option linter.unusedVariables false
set_option linter.unusedSimpArgs false
set_option maxRecDepth 100000
namespace Go.Clap
theorem E.case0 {α : Type} {A B A' B' : Option α} (h : E A A') : E (caseI 0 [A, B]) (caseI 0 [A', B']) := h
theorem E.case1 {α : Type} {A B A' B' : Option α} (h : E B B') : E (caseI 1 [A, B]) (caseI 1 [A', B']) := h
theorem e_table (k : Int) : E (f144 k) (f144 k) := by unfold f144; (repeat' (first | exact E.s _ | assumption | refine E.c ?_ ?_ | refine E.b ?_ (fun _ => ?_) | refine E.sb ?_ (fun _ => ?_) | refine E.l ?_ | dsimp only))
theorem e_plain (k : Int) : E (f158 k) (f158 k) := by unfold f158; (repeat' (first | exact E.s _ | assumption | refine E.c ?_ ?_ | refine E.b ?_ (fun _ => ?_) | refine E.sb ?_ (fun _ => ?_) | refine E.l ?_ | dsimp only))
theorem e_namesB (l : LB) : E (f159 l) (f159 l) := by
 have h1 : ∀ (x : LB) (j : Nat), j + x.length ≤ l.length → E (f159_L2 l x j) (f159_L2 l x j) := by
  intro x
  induction x with
  | nil => exact fun j _ => E.s _
  | cons y x ih =>
   intro j hj
   rw [List.length_cons] at hj
   exact .b (e_name y) fun q => .c (.g (by omega) (.b (.of (containsB_tot _ _)) fun q => .c (.l (.s _)) (ih (j + 1) (by omega)))) (.l (.s _))
 have := h1 l 0 (by omega)
 unfold f159
 (repeat' (first | exact E.s _ | assumption | refine E.c ?_ ?_ | refine E.b ?_ (fun _ => ?_) | refine E.sb ?_ (fun _ => ?_) | refine E.l ?_ | dsimp only))
theorem e_pairs (n m : Nat) (hn : 400 ≤ n) (hm : 400 ≤ m) (l1 : LW) (h : ∀ x, x ∈ l1 → WV 100 x.1 ∧ WV 100 x.2) : E (f161 n l1) (f161 m l1) := by
 have h56 : ∀ (l : LW) (j : Nat), (∀ x, x ∈ l → x ∈ l1) → j + l.length ≤ l1.length → E (f161_L56 n l1 l j) (f161_L56 m l1 l j) := by
  intro l
  induction l with
  | nil => exact fun j _ _ => E.s _
  | cons x l ih =>
   intro j hl hj
   rw [List.length_cons] at hj
   have hx := h x (hl x List.mem_cons_self)
   have ih := ih (j + 1) (fun x hx => hl x (List.mem_cons_of_mem _ hx)) (by omega)
   obtain ⟨⟨k1, n1, s1, f1⟩, ⟨k2, n2, s2, f2⟩⟩ := x
   have h73 : ∀ (q : LW) (i : Nat), E (f161_L73 n k1 n1 s1 f1 k2 n2 s2 f2 0 q i) (f161_L73 m k1 n1 s1 f1 k2 n2 s2 f2 0 q i) := by
    intro q
    induction q with
    | nil => exact fun i => E.s _
    | cons y q ihq =>
     intro i
     obtain ⟨⟨⟩, ⟨⟩⟩ := y
     exact .case0 (.b (e_same n m (by omega) (by omega) _ _ hx.1) fun q => .c (.l (.l (.l (.s _)))) (ihq _))
   have h74 : ∀ (q : LW) (i : Nat), E (f161_L74 n k1 n1 s1 f1 k2 n2 s2 f2 1 q i) (f161_L74 m k1 n1 s1 f1 k2 n2 s2 f2 1 q i) := by
    intro q
    induction q with
    | nil => exact fun i => E.s _
    | cons y q ihq =>
     intro i
     obtain ⟨⟨⟩, ⟨⟩⟩ := y
     exact .case1 (.b (e_same n m (by omega) (by omega) _ _ hx.2) fun q => .c (.l (.l (.l (.s _)))) (ihq _))
   refine .sb (.g (by omega) ?_) fun _ => ih
   show E (f161_L70 n l1 j k1 n1 s1 f1 k2 n2 s2 f2 (0 + 1 + 1) 0) (f161_L70 m l1 j k1 n1 s1 f1 k2 n2 s2 f2 (0 + 1 + 1) 0)
   refine .sb (.case0 (.b (e_vcheck n m (by omega) (by omega) _ hx.1) fun _ => .c (.l (.l (.l (.s _)))) (.b (e_plain _) fun _ => .c (.get (by omega) (by omega) fun u _ => ?_) (.l (.l (.l (.s _))))))) fun _ => ?_
   · obtain ⟨⟨⟩, ⟨⟩⟩ := u
     exact .c (.l (.l (.l (.s _)))) (.g (by omega) (h73 _ _))
   refine .sb (.case1 (.b (e_vcheck n m (by omega) (by omega) _ hx.2) fun _ => .c (.l (.l (.l (.s _)))) (.b (e_plain _) fun _ => .c (.get (by omega) (by omega) fun u _ => ?_) (.l (.l (.l (.s _))))))) fun _ => .s _
   · obtain ⟨⟨⟩, ⟨⟩⟩ := u
     exact .c (.l (.l (.l (.s _)))) (.g (by omega) (h74 _ _))
 have := h56 l1 0 (fun x hx => hx) (by omega)
 unfold f161
 (repeat' (first | exact E.s _ | assumption | refine E.c ?_ ?_ | refine E.b ?_ (fun _ => ?_) | refine E.sb ?_ (fun _ => ?_) | refine E.l ?_ | dsimp only))
def isS' (x : Option Int) (a : Int) : Bool := match x with | some y => decide (y = a) | none => false
theorem isS'_eq {x : Option Int} {a : Int} (h : isS' x a = true) : x = some a := by
 unfold isS' at h
 split at h
 · rw [of_decide_eq_true h]
 · cases h
theorem chk_ac (n : Nat) : f160 (n + 300) ⟨#[91, 97, 45, 99, 93, 42]⟩ = some 0 := isS'_eq (by kernel_rfl)
theorem chk_09 (n : Nat) : f160 (n + 300) ⟨#[91, 48, 45, 57, 93, 42]⟩ = some 0 := isS'_eq (by kernel_rfl)
theorem e_special (n m : Nat) (hn : 400 ≤ n) (hm : 400 ≤ m) (l : Ln) (h : NP l) : E (f145 n l) (f145 m l) := by
 obtain ⟨op, nm, to, ns, x, lo, hi, sep, ⟨k9, n10, s11, f12⟩, prs, ks⟩ := l
 obtain ⟨h1, h2, h3, h4, h5, h6⟩ := h
 have a1 := e_plain k9
 have a2 := e_namesB ns
 have a3 := e_pairs n m hn hm prs h5
 have a4 : op = 9 → E (f145_L2 n ns 0) (f145_L2 m ns 0) := fun h9 => by
  have : ∀ (l : LB) (j : Nat), (∀ p, p ∈ l → p = ⟨#[91, 97, 45, 99, 93, 42]⟩ ∨ p = ⟨#[91, 48, 45, 57, 93, 42]⟩) → E (f145_L2 n l j) (f145_L2 m l j) := by
   intro l
   induction l with
   | nil => exact fun j _ => E.s _
   | cons p l ih =>
    intro j hl
    have hc : E (f160 n p) (f160 m p) := by
     obtain ⟨n, rfl⟩ : ∃ a, n = a + 300 := ⟨n - 300, by omega⟩
     obtain ⟨m, rfl⟩ : ∃ a, m = a + 300 := ⟨m - 300, by omega⟩
     rcases hl p List.mem_cons_self with rfl | rfl
     · rw [chk_ac, chk_ac]; exact .s _
     · rw [chk_09, chk_09]; exact .s _
    exact .b hc fun r => .c (.l (.s _)) (ih _ fun p hp => hl p (List.mem_cons_of_mem _ hp))
  exact this ns 0 (h6 h9)
 unfold f145
 dsimp only
 refine .sb (.c ?_ (.c ?_ (.c ?_ (.c ?_ (.ch (fun c => ?_) fun _ => ?_))))) fun _ => .s _
 · (repeat' (first | exact E.s _ | assumption | refine E.c ?_ ?_ | refine E.b ?_ (fun _ => ?_) | refine E.sb ?_ (fun _ => ?_) | refine E.l ?_ | dsimp only))
 · (repeat' (first | exact E.s _ | assumption | refine E.c ?_ ?_ | refine E.b ?_ (fun _ => ?_) | refine E.sb ?_ (fun _ => ?_) | refine E.l ?_ | dsimp only))
 · (repeat' (first | exact E.s _ | assumption | refine E.c ?_ ?_ | refine E.b ?_ (fun _ => ?_) | refine E.sb ?_ (fun _ => ?_) | refine E.l ?_ | dsimp only))
 · (repeat' (first | exact E.s _ | assumption | refine E.c ?_ ?_ | refine E.b ?_ (fun _ => ?_) | refine E.sb ?_ (fun _ => ?_) | refine E.l ?_ | dsimp only))
 · have a4 := a4 (by simpa using c)
   (repeat' (first | exact E.s _ | assumption | refine E.c ?_ ?_ | refine E.b ?_ (fun _ => ?_) | refine E.sb ?_ (fun _ => ?_) | refine E.l ?_ | dsimp only))
 · (repeat' (first | exact E.s _ | assumption | refine E.c ?_ ?_ | refine E.b ?_ (fun _ => ?_) | refine E.sb ?_ (fun _ => ?_) | refine E.l ?_ | dsimp only))
theorem e_node (n m : Nat) (hn : 400 ≤ n) (hm : 400 ≤ m) (l : Ln) (h : NP l) : E (f116 n l) (f116 m l) := by
 have a1 := e_special n m hn hm l h
 obtain ⟨op, nm, to, ns, x, lo, hi, sep, ⟨k9, n10, s11, f12⟩, prs, ks⟩ := l
 obtain ⟨h1, h2, h3, h4, h5, h6⟩ := h
 have a2 := e_vcheck n m (by omega) (by omega) _ h4
 have a3 := e_same n m (by omega) (by omega) _ (.mk 0 0 ⟨#[]⟩ []) h4
 have a4 := e_name nm
 have a5 := e_name to
 have a6 := e_table op
 unfold f116
 dsimp only
 (repeat' (first | exact E.s _ | assumption | refine E.c ?_ ?_ | refine E.b ?_ (fun _ => ?_) | refine E.sb ?_ (fun _ => ?_) | refine E.l ?_ | dsimp only))
end Go.Clap
