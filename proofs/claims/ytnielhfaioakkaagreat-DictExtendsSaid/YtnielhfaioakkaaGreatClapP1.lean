/- The plain law of alignments: the found alignment is valid, without crossings, and costs what is told; no other costs less. -/
import Derived.Test.YtnielhfaioakkaaGreatClapV12
set_option linter.unusedVariables false
set_option linter.unusedSimpArgs false
namespace Go.Clap

theorem pathL_nil (i k : Nat) : pathL [] [] i k = [] := by rw [pathL]
theorem pathL_consL (a : ByteArray × V) (as : FL) (i k : Nat) : pathL (a :: as) [] i k = pathL as [] (i + 1) k := by rw [pathL]
theorem pathL_consR (b : ByteArray × V) (bs : FL) (i k : Nat) : pathL [] (b :: bs) i k = pathL [] bs i (k + 1) := by rw [pathL]
theorem pathL_cons (a b : ByteArray × V) (as bs : FL) (i k : Nat) : pathL (a :: as) (b :: bs) i k =
    if distL (a :: as) (b :: bs) = distL as bs + costV a.2 b.2 then ((i : Int), (k : Int)) :: pathL as bs (i + 1) (k + 1)
    else if distL (a :: as) (b :: bs) = distL as (b :: bs) + 2 then pathL as (b :: bs) (i + 1) k else pathL (a :: as) bs i (k + 1) := by rw [pathL]

theorem path_endR : ∀ (as : FL) (i k : Nat), pathL as [] i k = []
  | [], i, k => pathL_nil i k
  | a :: as, i, k => by rw [pathL_consL, path_endR as]
theorem path_endL : ∀ (bs : FL) (i k : Nat), pathL [] bs i k = []
  | [], i, k => pathL_nil i k
  | b :: bs, i, k => by rw [pathL_consR, path_endL bs]

theorem path_range : ∀ (as bs : FL) (i k : Nat), ∀ p ∈ pathL as bs i k, ((i : Int) ≤ p.1 ∧ p.1 < i + as.length) ∧ ((k : Int) ≤ p.2 ∧ p.2 < k + bs.length)
  | [], bs, i, k => by rw [path_endL]; intro p hp; cases hp
  | a :: as, [], i, k => by rw [path_endR]; intro p hp; cases hp
  | a :: as, b :: bs, i, k => by
    intro p hp
    rw [pathL_cons] at hp
    simp only [List.length_cons]
    split at hp
    · rcases List.mem_cons.1 hp with rfl | hp
      · simp only; omega
      · have := path_range as bs (i + 1) (k + 1) p hp
        omega
    · split at hp
      · have := path_range as (b :: bs) (i + 1) k p hp
        simp only [List.length_cons] at this
        omega
      · have := path_range (a :: as) bs i (k + 1) p hp
        simp only [List.length_cons] at this
        omega
termination_by as bs => as.length + bs.length

/-- Rising on both sides. -/
def Rise (l : PL) : Prop := l.Pairwise fun p q => p.1 < q.1 ∧ p.2 < q.2

theorem path_rise : ∀ (as bs : FL) (i k : Nat), Rise (pathL as bs i k)
  | [], bs, i, k => by rw [path_endL]; exact .nil
  | a :: as, [], i, k => by rw [path_endR]; exact .nil
  | a :: as, b :: bs, i, k => by
    rw [pathL_cons]
    split
    · refine .cons (fun q hq => ?_) (path_rise as bs (i + 1) (k + 1))
      have := path_range as bs (i + 1) (k + 1) q hq
      simp only
      omega
    · split
      · exact path_rise as (b :: bs) (i + 1) k
      · exact path_rise (a :: as) bs i (k + 1)
termination_by as bs => as.length + bs.length

/-! ### Costs -/
def csum (xs ys : FL) : PL → Int
  | [] => 0
  | p :: l => cstP xs ys p + csum xs ys l
theorem csum_append (xs ys : FL) (l l' : PL) : csum xs ys (l ++ l') = csum xs ys l + csum xs ys l' := by
  induction l with
  | nil => simp [csum]
  | cons p l ih => simp [csum, ih]; omega

theorem cst_bound {xs ys : FL} (h : CostOk xs ys) (p : Int × Int) : 0 ≤ cstP xs ys p ∧ cstP xs ys p ≤ 3 := by
  unfold cstP
  split
  · rename_i x y hx hy
    exact h x (List.mem_of_getElem? hx) y (List.mem_of_getElem? hy)
  · omega
theorem csum_bound {xs ys : FL} (h : CostOk xs ys) : ∀ l : PL, 0 ≤ csum xs ys l ∧ csum xs ys l ≤ 3 * l.length
  | [] => by simp [csum]
  | p :: l => by
    have h1 := cst_bound h p
    have h2 := csum_bound h l
    simp only [csum, List.length_cons]
    omega
theorem sumP_eq {xs ys : FL} (h : CostOk xs ys) : ∀ (l : PL) (n : Int), -1000000 ≤ n → n + 3 * l.length ≤ 1000000 → sumP xs ys n l = n + csum xs ys l
  | [], n, _, _ => by simp [sumP, csum]
  | p :: l, n, h0, h1 => by
    have h2 := cst_bound h p
    simp only [List.length_cons] at h1
    rw [sumP, wrapS _ (by omega) (by omega), sumP_eq h l _ (by omega) (by omega), csum]
    omega
theorem costP_eq {xs ys : FL} (h : CostOk xs ys) (l : PL) (hx : xs.length ≤ 1000) (hy : ys.length ≤ 1000) (hl : l.length ≤ 1000) :
    costP xs ys l = 2 * ((xs.length : Int) + ys.length - 2 * l.length) + csum xs ys l := by
  have w1 : IntKind.wrap .i64 ((xs.length : Int) + ys.length) = (xs.length : Int) + ys.length := wrapS _ (by omega) (by omega)
  have w2 : IntKind.wrap .i64 (2 * (l.length : Int)) = 2 * (l.length : Int) := wrapS _ (by omega) (by omega)
  have w3 : IntKind.wrap .i64 ((xs.length : Int) + ys.length - 2 * (l.length : Int)) = (xs.length : Int) + ys.length - 2 * (l.length : Int) := wrapS _ (by omega) (by omega)
  have w4 : IntKind.wrap .i64 (2 * ((xs.length : Int) + ys.length - 2 * (l.length : Int))) = 2 * ((xs.length : Int) + ys.length - 2 * (l.length : Int)) := wrapS _ (by omega) (by omega)
  rw [costP, w1, w2, w3, w4, sumP_eq h l _ (by omega) (by omega)]

theorem path_cost (xs ys : FL) (hc : CostOk xs ys) : ∀ (as bs : FL) (i k : Nat), as = xs.drop i → bs = ys.drop k →
    csum xs ys (pathL as bs i k) + 2 * ((as.length : Int) + bs.length - 2 * (pathL as bs i k).length) = distL as bs
  | [], bs, i, k, _, _ => by rw [path_endL, distL_nilL]; simp [csum]
  | a :: as, [], i, k, _, _ => by rw [path_endR, distL_nilR]; simp [csum]
  | a :: as, b :: bs, i, k, ha, hb => by
    have hi : i < xs.length := by
      rcases Nat.lt_or_ge i xs.length with h | h
      · exact h
      · rw [List.drop_eq_nil_of_le h] at ha; cases ha
    have hk : k < ys.length := by
      rcases Nat.lt_or_ge k ys.length with h | h
      · exact h
      · rw [List.drop_eq_nil_of_le h] at hb; cases hb
    have hx := List.getElem?_eq_getElem hi
    have hy := List.getElem?_eq_getElem hk
    rw [drop_cons hx] at ha
    rw [drop_cons hy] at hb
    obtain ⟨rfl, ha2⟩ := List.cons.inj ha
    obtain ⟨rfl, hb2⟩ := List.cons.inj hb
    have h1 := path_cost xs ys hc as bs (i + 1) (k + 1) ha2 hb2
    have h2 := path_cost xs ys hc as (ys[k] :: bs) (i + 1) k ha2 (by rw [drop_cons hy, ← hb2])
    have h3 := path_cost xs ys hc (xs[i] :: as) bs i (k + 1) (by rw [drop_cons hx, ← ha2]) hb2
    have hcst : cstP xs ys ((i : Int), (k : Int)) = costV xs[i].2 ys[k].2 := by
      simp only [cstP, Int.toNat_natCast, hx, hy]
    have hm := distL_cons xs[i] ys[k] as bs
    rw [pathL_cons]
    simp only [List.length_cons] at h2 h3 ⊢
    split
    · rename_i e
      rw [csum, hcst, e, ← h1]
      simp only [List.length_cons]
      omega
    · rename_i e
      split
      · rename_i e2
        rw [e2, ← h2]
        omega
      · rename_i e2
        omega
termination_by as bs => as.length + bs.length

/-- What was picked so far leaves no less than the least. -/
def PickInv (xs ys : FL) (i k : Nat) (l : PL) : Prop :=
  i ≤ xs.length ∧ k ≤ ys.length ∧ InR xs ys l ∧ l.length ≤ i ∧ l.length ≤ k ∧
  distL xs ys ≤ csum xs ys l + 2 * ((i : Int) + k - 2 * l.length) + distL (xs.drop i) (ys.drop k)

theorem pick_step {xs ys : FL} {i k : Nat} (hi : i < xs.length) (hk : k < ys.length) :
    distL (xs.drop i) (ys.drop k) ≤ distL (xs.drop (i + 1)) (ys.drop (k + 1)) + cstP xs ys ((i : Int), (k : Int)) ∧
    distL (xs.drop i) (ys.drop k) ≤ distL (xs.drop (i + 1)) (ys.drop k) + 2 ∧ distL (xs.drop i) (ys.drop k) ≤ distL (xs.drop i) (ys.drop (k + 1)) + 2 := by
  have hx := List.getElem?_eq_getElem hi
  have hy := List.getElem?_eq_getElem hk
  have dx := drop_cons hx
  have dy := drop_cons hy
  have hcst : cstP xs ys ((i : Int), (k : Int)) = costV xs[i].2 ys[k].2 := by
    simp only [cstP, Int.toNat_natCast, hx, hy]
  have hm := distL_cons xs[i] ys[k] (xs.drop (i + 1)) (ys.drop (k + 1))
  rw [← dx, ← dy] at hm
  rw [hcst]
  omega

theorem picks_ok {xs ys : FL} (hc : CostOk xs ys) (hx : xs.length ≤ 7) (hy : ys.length ≤ 7) : Picks xs ys (distL xs ys) (PickInv xs ys) where
  i0 := ⟨by omega, by omega, fun p hp => (by cases hp), by simp, by simp, (by simp [csum])⟩
  iP i k l := by
    rintro ⟨h1, h2, h3, h4, h5, h6⟩ hi hk
    refine ⟨by omega, by omega, fun p hp => ?_, by simp; omega, by simp; omega, ?_⟩
    · rcases List.mem_append.1 hp with hp | hp
      · exact h3 p hp
      · rw [List.mem_singleton] at hp
        subst hp
        simp only
        omega
    · have := (pick_step hi hk).1
      rw [csum_append]
      simp only [csum, List.length_append, List.length_cons, List.length_nil]
      omega
  iA i k l := by
    rintro ⟨h1, h2, h3, h4, h5, h6⟩ hi hk
    have := (pick_step hi hk).2.1
    exact ⟨by omega, by omega, h3, by omega, by omega, by omega⟩
  iB i k l := by
    rintro ⟨h1, h2, h3, h4, h5, h6⟩ hi hk
    have := (pick_step hi hk).2.2
    exact ⟨by omega, by omega, h3, by omega, by omega, by omega⟩
  iE i k l := by
    rintro ⟨h1, h2, h3, h4, h5, h6⟩ hi hk hn
    refine ⟨h3, ?_⟩
    rw [costP_eq hc l (by omega) (by omega) (by omega)]
    by_cases hix : i < xs.length
    · have e : ys.drop k = [] := List.drop_eq_nil_of_le (by omega)
      rw [e, distL_nilR, List.length_drop] at h6
      omega
    · have e : xs.drop i = [] := List.drop_eq_nil_of_le (by omega)
      rw [e, distL_nilL, List.length_drop] at h6
      omega
  iL i k l := by
    rintro ⟨h1, h2, h3, h4, h5, h6⟩
    exact h4

/-! ### The found alignment is valid and does not cross itself -/
theorem getD_set (L : List Bool) (i j : Nat) (h : i ≠ j) : (L.set i true).getD j false = L.getD j false := by
  simp [List.getD, List.getElem?_set_ne h]

theorem chkAcc_rise (n m : Int) : ∀ (l : PL) (L Rr : List Bool), Rise l → (∀ p ∈ l, (0 ≤ p.1 ∧ p.1 < n) ∧ (0 ≤ p.2 ∧ p.2 < m)) → (∀ p ∈ l, L.getD p.1.toNat false = false ∧ Rr.getD p.2.toNat false = false) →
    chkAcc n m L Rr l = 0
  | [], L, Rr, _, _, _ => by rw [chkAcc]
  | p :: l, L, Rr, hr, hin, hf => by
    cases hr with
    | cons hlt hr =>
      have h1 := hin p (List.mem_cons_self ..)
      have h2 := hf p (List.mem_cons_self ..)
      have e1 : decide (p.1 < 0) = false := decide_eq_false (by omega)
      have e2 : decide (p.1 ≥ n) = false := decide_eq_false (by omega)
      have e3 : decide (p.2 < 0) = false := decide_eq_false (by omega)
      have e4 : decide (p.2 ≥ m) = false := decide_eq_false (by omega)
      rw [chkAcc, e1, e2, e3, e4, h2.1, h2.2]
      refine chkAcc_rise n m l _ _ hr (fun q hq => hin q (List.mem_cons_of_mem _ hq)) fun q hq => ?_
      have h3 := hf q (List.mem_cons_of_mem _ hq)
      have h4 := hlt q hq
      have h5 := hin q (List.mem_cons_of_mem _ hq)
      rw [getD_set _ _ _ (by omega), getD_set _ _ _ (by omega)]
      exact h3

theorem getD_rep (n i : Nat) : (List.replicate n false).getD i false = false := by
  rw [List.getD]
  cases h : (List.replicate n false)[i]? with
  | none => rfl
  | some b => rw [List.getElem?_replicate] at h; split at h <;> simp_all

theorem checkP_path {xs ys : FL} (hx : xs.length ≤ 7) (hy : ys.length ≤ 7) : checkP (pathL xs ys 0 0) xs.length ys.length = 0 := by
  have e1 : decide ((xs.length : Int) < 0) = false := decide_eq_false (by omega)
  have e2 : decide ((ys.length : Int) < 0) = false := decide_eq_false (by omega)
  have e3 : decide ((xs.length : Int) > 200) = false := decide_eq_false (by omega)
  have e4 : decide ((ys.length : Int) > 200) = false := decide_eq_false (by omega)
  rw [checkP, e1, e2, e3, e4]
  exact chkAcc_rise _ _ _ _ _ (path_rise xs ys 0 0) (fun p hp => by have := path_range xs ys 0 0 p hp; omega) fun p hp => ⟨getD_rep _ _, getD_rep _ _⟩

theorem inR_path (xs ys : FL) : InR xs ys (pathL xs ys 0 0) := fun p hp => by have := path_range xs ys 0 0 p hp; omega

theorem crossIn_none (p : Int × Int) : ∀ (l : PL) (n : Int), (∀ q ∈ l, q.1 < p.1 ∧ q.2 < p.2) → crossIn p n l = n
  | [], n, _ => by rw [crossIn]
  | q :: l, n, h => by
    have h1 := h q (List.mem_cons_self ..)
    have e1 : decide (p.1 < q.1) = false := decide_eq_false (by omega)
    have e2 : decide (p.2 < q.2) = false := decide_eq_false (by omega)
    rw [crossIn, e1, e2, Bool.false_and, Bool.and_false, Bool.false_or]
    exact crossIn_none p l n fun q hq => h q (List.mem_cons_of_mem _ hq)
theorem crossOut_none : ∀ (l done : PL), Rise (done ++ l) → crossOut 0 done l = 0
  | [], done, _ => by rw [crossOut]
  | p :: l, done, h => by
    have h1 : ∀ q ∈ done, q.1 < p.1 ∧ q.2 < p.2 := fun q hq => (List.pairwise_append.1 h).2.2 q hq p (List.mem_cons_self ..)
    rw [crossOut, crossIn_none p done 0 h1]
    exact crossOut_none l (done ++ [p]) (by rw [List.append_assoc]; exact h)

theorem costP_path {xs ys : FL} (hc : CostOk xs ys) (hx : xs.length ≤ 7) (hy : ys.length ≤ 7) : costP xs ys (pathL xs ys 0 0) = distL xs ys := by
  have h := path_cost xs ys hc xs ys 0 0 rfl rfl
  have hl : (pathL xs ys 0 0).length ≤ 1000 := by
    have : ∀ (as bs : FL) (i k : Nat), (pathL as bs i k).length ≤ as.length := by
      intro as bs i k
      induction as, bs, i, k using pathL.induct with
      | case1 i k => rw [pathL_nil]; simp
      | case2 a as i k ih => rw [path_endR]; simp
      | case3 b bs i k ih => rw [path_endL]; simp
      | case4 a as b bs i k h ih => rw [pathL_cons, if_pos h]; simp; omega
      | case5 a as b bs i k h h2 ih => rw [pathL_cons, if_neg h, if_pos h2]; simp at ih ⊢; omega
      | case6 a as b bs i k h h2 ih => rw [pathL_cons, if_neg h, if_neg h2]; simp at ih ⊢; omega
    have := this xs ys 0 0
    omega
  rw [costP_eq hc _ (by omega) (by omega) hl]
  omega

end Go.Clap
