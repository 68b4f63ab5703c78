/- The plain law of alignments: the makers' lists, their costs. -/
import Derived.Test.YtnielhfaioakkaaGreatClapV8
set_option linter.unusedVariables false
set_option linter.unusedSimpArgs false
namespace Go.Clap

def eN (k : Nat) : V := recV (IntKind.wrap .i64 ((k : Int).tdiv 3)) ((k : Int).tmod 3)
abbrev nmE : ByteArray := ⟨#[]⟩

theorem bel9 (n : Int) : ∃ k : Nat, k < 9 ∧ bel n 9 = k := by
  have h1 := Int.tmod_lt_of_pos n (show (0 : Int) < 9 by decide)
  have h2 : -9 < n.tmod 9 := by
    have := Int.lt_tmod_of_pos n (show (0 : Int) < 9 by decide)
    omega
  unfold bel
  split
  · refine ⟨(n.tmod 9 + 9).toNat, by omega, ?_⟩
    rw [wrapS _ (by omega) (by omega)]; omega
  · exact ⟨(n.tmod 9).toNat, by omega, by omega⟩

theorem elt_eN (n : Int) : ∃ k : Nat, k < 9 ∧ eltV n = eN k := by
  obtain ⟨k, h, e⟩ := bel9 n
  exact ⟨k, h, by simp only [eltV, eN, e]⟩

/-- Lists of the makers' elements. -/
def El (l : FL) : Prop := ∀ f ∈ l, ∃ k : Nat, k < 9 ∧ f = (nmE, eN k)
theorem El.tail {f : ByteArray × V} {l : FL} (h : El (f :: l)) : El l := fun g hg => h g (List.mem_cons_of_mem _ hg)
theorem El.head {f : ByteArray × V} {l : FL} (h : El (f :: l)) : ∃ k : Nat, k < 9 ∧ f = (nmE, eN k) := h f (List.mem_cons_self ..)
theorem el_list (l : List Int) : El (listV l).fs := by
  intro f hf
  simp only [listV, V.fs, List.mem_map] at hf
  obtain ⟨n, _, rfl⟩ := hf
  obtain ⟨k, h, e⟩ := elt_eN n
  exact ⟨k, h, by rw [e]⟩
theorem len_list (l : List Int) : (listV l).fs.length ≤ 7 := by simp [listV, V.fs]; omega

theorem fin9 {p : Nat → Nat → Prop} [∀ i j, Decidable (p i j)] (h : ∀ i : Fin 9, ∀ j : Fin 9, p i.val j.val) {i j : Nat} (hi : i < 9) (hj : j < 9) : p i j := h ⟨i, hi⟩ ⟨j, hj⟩
theorem fin9' {p : Nat → Prop} (h : ∀ i : Fin 9, p i.val) {i : Nat} (hi : i < 9) : p i := h ⟨i, hi⟩

theorem cost_eN {i j : Nat} (hi : i < 9) (hj : j < 9) : (0 ≤ costV (eN i) (eN j) ∧ costV (eN i) (eN j) ≤ 3) ∧ costV (eN i) (eN j) = costV (eN j) (eN i) ∧ (costV (eN i) (eN j) = 0 ↔ cmpV (eN i) (eN j) = 0) ∧ (cmpV (eN i) (eN j) = 0 ↔ i = j) :=
  fin9 (p := fun i j => (0 ≤ costV (eN i) (eN j) ∧ costV (eN i) (eN j) ≤ 3) ∧ costV (eN i) (eN j) = costV (eN j) (eN i) ∧ (costV (eN i) (eN j) = 0 ↔ cmpV (eN i) (eN j) = 0) ∧ (cmpV (eN i) (eN j) = 0 ↔ i = j)) (by decide +kernel) hi hj
theorem node_eN {i : Nat} (hi : i < 9) : nodeV (eN i) false = 0 := fin9' (p := fun i => nodeV (eN i) false = 0) (by decide +kernel) hi
theorem size_eN {i : Nat} (hi : i < 9) : sizeV (eN i) = 3 := fin9' (p := fun i => sizeV (eN i) = 3) (by decide +kernel) hi
theorem deep_eN {i : Nat} (hi : i < 9) : deepV (eN i) = 2 := fin9' (p := fun i => deepV (eN i) = 2) (by decide +kernel) hi

theorem costOk_el {xs ys : FL} (hx : El xs) (hy : El ys) : CostOk xs ys := by
  intro a ha b hb
  obtain ⟨i, hi, rfl⟩ := hx a ha
  obtain ⟨j, hj, rfl⟩ := hy b hb
  exact (cost_eN hi hj).1

theorem dist_sym : ∀ (xs ys : FL), El xs → El ys → distL xs ys = distL ys xs
  | [], ys, _, _ => by rw [distL_nilL, distL_nilR]
  | x :: xs, [], _, _ => by rw [distL_nilL, distL_nilR]
  | x :: xs, y :: ys, hx, hy => by
    have h1 := dist_sym xs ys hx.tail hy.tail
    have h2 := dist_sym xs (y :: ys) hx.tail hy
    have h3 := dist_sym (x :: xs) ys hx hy.tail
    obtain ⟨i, hi, rfl⟩ := hx.head
    obtain ⟨j, hj, rfl⟩ := hy.head
    have hc := (cost_eN hi hj).2.1
    rw [distL_cons, distL_cons, h1, h2, h3]
    simp only at hc ⊢
    rw [hc]
    omega
termination_by xs ys => xs.length + ys.length

theorem cmpFs_cons (i j : Nat) (xs ys : FL) : cmpFs ((nmE, eN i) :: xs) ((nmE, eN j) :: ys) = if cmpV (eN i) (eN j) = 0 then cmpFs xs ys else cmpV (eN i) (eN j) := by
  have h0 : cmpB nmE nmE = 0 := by decide +kernel
  have h1 : orI [cmpB nmE nmE, cmpV (eN i) (eN j)] = cmpV (eN i) (eN j) := by
    rw [h0]; simp only [orI, if_true]; split <;> simp_all
  rw [cmpFs, h1]

theorem dist_zero : ∀ (xs ys : FL), El xs → El ys → (distL xs ys = 0 ↔ cmpFs xs ys = 0)
  | [], [], _, _ => by rw [distL_nilL, cmpFs]; simp
  | [], y :: ys, _, _ => by rw [distL_nilL, cmpFs]; simp; omega
  | x :: xs, [], _, _ => by rw [distL_nilR, cmpFs]; simp; omega
  | x :: xs, y :: ys, hx, hy => by
    have h1 := dist_zero xs ys hx.tail hy.tail
    have b1 := distL_bound xs ys (costOk_el hx.tail hy.tail)
    have b2 := distL_bound xs (y :: ys) (costOk_el hx.tail hy)
    have b3 := distL_bound (x :: xs) ys (costOk_el hx hy.tail)
    obtain ⟨i, hi, rfl⟩ := hx.head
    obtain ⟨j, hj, rfl⟩ := hy.head
    obtain ⟨c1, _, c2, _⟩ := cost_eN hi hj
    rw [distL_cons, cmpFs_cons]
    simp only at c1 c2 ⊢
    by_cases hc : cmpV (eN i) (eN j) = 0
    · rw [if_pos hc, ← h1, c2.2 hc]
      omega
    · rw [if_neg hc]
      have : costV (eN i) (eN j) ≠ 0 := fun h => hc (c2.1 h)
      constructor
      · intro h; omega
      · intro h; exact absurd h hc

theorem cmp_list (x y : List Int) : cmpV (listV x) (listV y) = cmpFs (listV x).fs (listV y).fs := by
  have : headI (listV x) (listV y) = 0 := by
    show orI [cmpI 8 8, if (8 : Int) = 3 then cmpI (ordI 0) (ordI 0) else cmpI 0 0, cmpB nmE nmE] = 0
    decide +kernel
  unfold listV at this ⊢
  rw [cmpV, if_pos this]
  rfl

theorem law_metric (x y : List Int) : (distL (listV x).fs (listV y).fs == 0) = decide (cmpV (listV x) (listV y) = 0) := by
  have h := dist_zero _ _ (el_list x) (el_list y)
  rw [cmp_list]
  by_cases e : cmpFs (listV x).fs (listV y).fs = 0
  · rw [h.2 e]; simp [e]
  · have : distL (listV x).fs (listV y).fs ≠ 0 := fun h' => e (h.1 h')
    simp [e, this]

/-! ### The makers' lists are well-formed -/
theorem sizeAcc_el : ∀ (l : FL) (n : Int), El l → 0 ≤ n → n + 3 * l.length ≤ 1000 → sizeAcc n l = n + 3 * l.length
  | [], n, _, _, _ => by simp [sizeAcc]
  | f :: l, n, h, h0, h1 => by
    obtain ⟨i, hi, rfl⟩ := h.head
    simp only [List.length_cons] at h1 ⊢
    rw [sizeAcc, size_eN hi, wrapS _ (by omega) (by omega), sizeAcc_el l (n + 3) h.tail (by omega) (by omega)]
    omega
theorem deepAcc_el : ∀ (l : FL) (n : Int), El l → 0 ≤ n → n ≤ 2 → 0 ≤ deepAcc n l ∧ deepAcc n l ≤ 2
  | [], n, _, h0, h1 => by simp [deepAcc]; omega
  | f :: l, n, h, h0, h1 => by
    obtain ⟨i, hi, rfl⟩ := h.head
    rw [deepAcc, deep_eN hi]
    split
    · exact deepAcc_el l 2 h.tail (by omega) (by omega)
    · exact deepAcc_el l n h.tail h0 h1
theorem keysAcc_el : ∀ (l : FL) (p : Option ByteArray), El l → keysAcc 8 p l = 0
  | [], p, _ => keysAcc_nil 8 p
  | f :: l, p, h => by
    obtain ⟨i, hi, rfl⟩ := h.head
    rw [keysAcc_cons, if_pos (by decide), if_neg (show ¬ (!(nmE.toList == (ByteArray.mk #[]).toList)) = true by simp)]
    exact keysAcc_el l _ h.tail
theorem nodeFs_el : ∀ (l : FL), El l → nodeFs l = 0
  | [], _ => by rw [nodeFs]
  | f :: l, h => by
    obtain ⟨i, hi, rfl⟩ := h.head
    rw [nodeFs, node_eN hi, nodeFs_el l h.tail]
    rfl

theorem check_el (l : FL) (h : El l) (hl : l.length ≤ 100) : checkV (.mk 8 0 nmE l) = 0 := by
  have h1 : sizeV (.mk 8 0 nmE l) = 1 + 3 * l.length := by rw [sizeV]; exact sizeAcc_el l 1 h (by omega) (by omega)
  have h2 : deepV (.mk 8 0 nmE l) ≤ 3 := by
    have := deepAcc_el l 0 h (by omega) (by omega)
    rw [deepV, wrapS _ (by omega) (by omega)]; omega
  have h3 : badK 8 true = false := by decide
  have h4 : unusedB (.mk 8 0 nmE l) = false := by
    have e1 : numB 8 = false := by decide
    have e2 : scalB 8 = false := by decide
    have e3 : (nmE.toList == (ByteArray.mk #[]).toList) = true := by simp
    simp only [unusedB, e1, e2, e3]
    rfl
  have h5 : numberB (.mk 8 0 nmE l) = true := by simp only [numberB]; decide
  have h6 : fieldsI (.mk 8 0 nmE l) = 0 := by
    simp only [fieldsI]
    rw [if_neg (by decide), if_neg (by decide), if_neg (by decide), if_pos (by decide), if_neg (by omega), keysAcc_el l none h]
  rw [checkV, nodeV, h3, h4, h5, h6, nodeFs_el l h]
  have e1 : decide (sizeV (.mk 8 0 nmE l) > 2000) = false := decide_eq_false (by omega)
  have e2 : decide (deepV (.mk 8 0 nmE l) > 40) = false := decide_eq_false (by omega)
  rw [e1, e2]
  decide

theorem check_list (x : List Int) : checkV (listV x) = 0 := check_el (listV x).fs (el_list x) (by have := len_list x; omega)
theorem check_two (x y : List Int) : checkL [listV x, listV y] = 0 := by
  rw [checkL, check_list x, checkL, check_list y, checkL]
  rfl

/-! ### The fact on alignments -/
theorem aligned_dist : distL (listV [1, 2]).fs (listV [2]).fs = 2 ∧ pathL (listV [1, 2]).fs (listV [2]).fs 0 0 = [(1, 0)] := by
  have e1 : (listV [1, 2]).fs = [(nmE, eN 1), (nmE, eN 2)] := by
    have a1 : eltV 1 = eN 1 := by rw [eltV, eN, show bel 1 9 = ((1 : Nat) : Int) by decide]
    have a2 : eltV 2 = eN 2 := by rw [eltV, eN, show bel 2 9 = ((2 : Nat) : Int) by decide]
    simp only [listV, V.fs, List.take, List.map, a1, a2]
  have e2 : (listV [2]).fs = [(nmE, eN 2)] := by
    have a2 : eltV 2 = eN 2 := by rw [eltV, eN, show bel 2 9 = ((2 : Nat) : Int) by decide]
    simp only [listV, V.fs, List.take, List.map, a2]
  have c1 : costV (eN 1) (eN 2) = 1 := by decide +kernel
  have c2 : costV (eN 2) (eN 2) = 0 := by decide +kernel
  have d1 : distL [(nmE, eN 2)] [(nmE, eN 2)] = 0 := by
    rw [distL_cons, distL_nilL, distL_nilL, distL_nilR]; simp only [c2]; decide
  have d2 : distL [(nmE, eN 1), (nmE, eN 2)] [(nmE, eN 2)] = 2 := by
    rw [distL_cons, distL_nilR, distL_nilR, d1]; simp only [c1]; decide
  rw [e1, e2]
  refine ⟨d2, ?_⟩
  rw [pathL, d2, d1, distL_nilR, if_neg (by simp only [c1]; decide), if_pos (by decide)]
  rw [pathL, d1, distL_nilL, if_pos (by simp only [c2]; decide), pathL]
  rfl

end Go.Clap
