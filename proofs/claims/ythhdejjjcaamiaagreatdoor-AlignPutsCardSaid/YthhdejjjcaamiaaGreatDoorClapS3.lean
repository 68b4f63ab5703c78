/- Lists of small records: which old element is found for each element of a view, and what is put. -/
import Derived.Test.YthhdejjjcaamiaaGreatDoorClapS2
set_option linter.unusedVariables false
set_option linter.unusedSimpArgs false
set_option maxRecDepth 1000000
set_option maxHeartbeats 4000000
namespace Go.Clap

/-- The first index from j on whose key is k and that is not used; -1: none. -/
def fnd (U : List Bool) (k : Int) : List Int → Nat → Int
  | [], _ => -1
  | x :: t, j => if U[j]? = some false ∧ x = k then (j : Int) else fnd U k t (j + 1)
def upd (U : List Bool) (j : Int) : List Bool := if 0 ≤ j then U.set j.toNat true else U
/-- The indices that are found, one behind the other. -/
def mts (ks : List Int) : List Int → List Bool → List Int
  | [], _ => []
  | k :: r, U => fnd U k ks 0 :: mts ks r (upd U (fnd U k ks 0))
/-- What is put for the key k and the index j. -/
def rs (la : List (Int × Int)) (k j : Int) : V := rc k (if 0 ≤ j then (match la[j.toNat]? with | some x => x.2 | none => 7) else 7)
def outs (la : List (Int × Int)) : List Int → List Bool → List (ByteArray × V)
  | [], _ => []
  | k :: r, U => (ee, rs la k (fnd U k (la.map (·.1)) 0)) :: outs la r (upd U (fnd U k (la.map (·.1)) 0))

theorem fnd_ge (U : List Bool) (k : Int) : ∀ (t : List Int) (j : Nat), fnd U k t j = -1 ∨ (j : Int) ≤ fnd U k t j
  | [], j => .inl rfl
  | x :: t, j => by
    unfold fnd
    split
    · exact .inr (Int.le_refl _)
    · rcases fnd_ge U k t (j + 1) with h | h
      · exact .inl h
      · exact .inr (by omega)
theorem fnd_spec (U : List Bool) (k : Int) : ∀ (t : List Int) (j : Nat), 0 ≤ fnd U k t j → U[(fnd U k t j).toNat]? = some false ∧ ∃ i, fnd U k t j = ((j + i : Nat) : Int) ∧ t[i]? = some k
  | [], j, h => absurd h (by unfold fnd; decide)
  | x :: t, j, h => by
    unfold fnd at h ⊢
    split
    · rename_i hx
      exact ⟨by rw [Int.toNat_natCast]; exact hx.1, 0, by simp, by rw [hx.2]; rfl⟩
    · rename_i hx
      rw [if_neg hx] at h
      obtain ⟨h1, i, h2, h3⟩ := fnd_spec U k t (j + 1) h
      exact ⟨h1, i + 1, by rw [h2]; omega, h3⟩
theorem fnd_yes {U : List Bool} {k x : Int} {t : List Int} {j : Nat} (h : U[j]? = some false ∧ x = k) : fnd U k (x :: t) j = (j : Int) := by
  rw [fnd]; exact if_pos h
theorem fnd_no {U : List Bool} {k x : Int} {t : List Int} {j : Nat} (h : ¬ (U[j]? = some false ∧ x = k)) : fnd U k (x :: t) j = fnd U k t (j + 1) := by
  rw [fnd]; exact if_neg h
theorem upd_len (U : List Bool) (j : Int) : (upd U j).length = U.length := by
  unfold upd; split
  · rw [List.length_set]
  · rfl

theorem get10 : ∀ k ∈ dig, f35 10 (on aa k) aa = some (nm k, true) := tab1 (by kernel_rfl)
theorem same10 : ∀ a ∈ dig, ∀ b ∈ dig, f11 10 (nm a) (nm b) = some (decide (a = b)) := tab2 (by kernel_rfl)
theorem vw10 : ∀ a ∈ dig, ∀ b ∈ dig, f1048 10 (dp bb 7) (rc a b) = some (on aa a) := tab2 (by kernel_rfl)
theorem put10 : ∀ k ∈ dig, ∀ p ∈ dig, ∀ q ∈ dig, (S1062 10).1 [] (dp bb 7) pr (on aa k) (rc p q) true = some (rc k q, 0) := tab3 (by kernel_rfl)
theorem new10 : ∀ k ∈ dig, (S1062 10).1 [] (dp bb 7) pr (on aa k) (V.mk 0 0 ee []) false = some (rc k 7, 0) := tab1 (by kernel_rfl)

theorem match_i (U : List Bool) {k : Int} (hk : k ∈ dig) : ∀ (r : List (Int × Int)) (j : Nat), (∀ x ∈ r, Dg x) → j + r.length ≤ U.length →
    f1075_L2 10 aa [dp bb 7] U 2 k ee [] (r.map El) j = some (if 0 ≤ fnd U k (r.map (·.1)) j then .inl (fnd U k (r.map (·.1)) j) else .inr ())
  | [], j, _, _ => by
    show f1075_L2 10 aa [dp bb 7] U 2 k ee [] [] j = _
    rw [f1075_L2]; rfl
  | (p, q) :: r, j, h, hj => by
    have hx := h (p, q) List.mem_cons_self
    simp only [List.length_cons] at hj
    have hjl : j < U.length := by omega
    obtain ⟨b, hb⟩ : ∃ b, U[j]? = some b := ⟨U[j], List.getElem?_eq_getElem hjl⟩
    have ih := match_i U hk r (j + 1) (fun x hx => h x (List.mem_cons_of_mem _ hx)) (by omega)
    show f1075_L2 10 aa [dp bb 7] U 2 k ee [] ((ee, V.mk 6 0 ee (fs p q)) :: r.map El) j = _
    rw [f1075_L2, gr_t (by omega), Int.toNat_natCast, Nat.zero_add, gn_t hb, gl_0]
    have hv : f1048 10 (Ln.mk 4 bb ee [] 0 0 0 0 (V.mk 2 7 ee []) [] []) (V.mk 6 0 ee (fs p q)) = some (on aa p) := vw10 p hx.1 q hx.2
    rw [List.map_cons]
    cases b with
    | true =>
      rw [fnd_no (by rw [hb]; simp)]
      exact ih
    | false =>
      simp only [cond_false]
      rw [hv]
      simp only [bso]
      rw [get10 p hx.1]
      simp only [bso, sbr, cond_true]
      rw [same10 p hx.1 k hk]
      by_cases e : p = k
      · rw [fnd_yes ⟨hb, e⟩]
        simp only [e, decide_true, bso, cond_true]
        rw [if_pos (by omega)]
        rfl
      · rw [fnd_no (fun hh => e hh.2)]
        simp only [e, decide_false, bso, cond_false]
        exact ih

theorem match_v (U : List Bool) {k : Int} (hk : k ∈ dig) {la : List (Int × Int)} (h : ∀ x ∈ la, Dg x) (hj : la.length ≤ U.length) (v : Int) :
    f1075 10 LE (lt pr) v (ee, on aa k) (V.mk 8 0 ee (la.map El)) U = some (fnd U k (la.map (·.1)) 0) := by
  unfold f1075
  dsimp only
  have e0 : (aa.toList == (⟨#[]⟩ : ByteArray).toList) = false := by decide +kernel
  rw [e0, get10 k hk]
  simp only [bso, show ((8 : Int) == 9) = false from rfl, cond_false]
  rw [match_i U hk la 0 h (by omega)]
  split
  · rfl
  · rename_i h0
    rcases fnd_ge U k (la.map (·.1)) 0 with h1 | h1
    · rw [h1]; rfl
    · omega

theorem each_l {la : List (Int × Int)} (ha : ∀ x ∈ la, Dg x) : ∀ (r : List Int) (D : List (ByteArray × V)) (U : List Bool), (∀ k ∈ r, k ∈ dig) → U.length = la.length →
    f1074_L2 10 (S1062 10).1 [] 13 aa ee [] 0 0 0 0 0 0 ee [] [] [dp bb 7] 8 ee 0 7 ee [(ee, pr)] 8 0 ee (la.map El) r.length (D.length : Int) U (D ++ r.map (fun k => (ee, on aa k))) = some (.inr (D ++ outs la r U))
  | [], D, U, _, _ => by
    show f1074_L2 10 (S1062 10).1 [] 13 aa ee [] 0 0 0 0 0 0 ee [] [] [dp bb 7] 8 ee 0 7 ee [(ee, pr)] 8 0 ee (la.map El) 0 (D.length : Int) U (D ++ []) = _
    rw [f1074_L2]; rfl
  | k :: r, D, U, h, hU => by
    have hk := h k List.mem_cons_self
    have hl : (D ++ (k :: r).map (fun k => ((ee : ByteArray), on aa k))).length = D.length + r.length + 1 := by simp; omega
    have hg : (D ++ (k :: r).map (fun k => ((ee : ByteArray), on aa k)))[D.length]? = some (ee, on aa k) := ga D _ _
    have hm := match_v U hk ha (by omega) (D.length : Int)
    have ih := fun U' hU' V' => each_l ha r (D ++ [((ee : ByteArray), V')]) U' (fun x hx => h x (List.mem_cons_of_mem _ hx)) hU'
    have e1 : ∀ V' : V, (((D ++ [((ee : ByteArray), V')]).length : Nat) : Int) = (D.length : Int) + 1 := fun _ => by simp
    simp only [e1] at ih
    rw [List.length_cons, f1074_L2, gr_t (by rw [hl]; omega), Int.toNat_natCast, Nat.zero_add, gn_t hg]
    simp only
    rw [hm]
    simp only [bso]
    unfold outs
    obtain ⟨j, hj⟩ : ∃ j, j = fnd U k (la.map (·.1)) 0 := ⟨_, rfl⟩
    rw [← hj]
    by_cases h0 : 0 ≤ j
    · obtain ⟨h1, i, h2, h3⟩ := fnd_spec U k (la.map (·.1)) 0 (hj ▸ h0)
      rw [← hj] at h1 h2
      obtain ⟨n, rfl⟩ : ∃ n : Nat, j = n := ⟨j.toNat, by omega⟩
      rw [Int.toNat_natCast] at h1
      have hn : n < la.length := by have := (List.getElem?_eq_some_iff.1 h1).1; omega
      obtain ⟨x, hx⟩ : ∃ x, la[n]? = some x := ⟨la[n], List.getElem?_eq_getElem hn⟩
      have hd := ha x (List.mem_of_getElem? hx)
      have hgl : (la.map El)[n]? = some (El x) := by rw [List.getElem?_map, hx]; rfl
      obtain ⟨p, q⟩ := x
      have hp : (S1062 10).1 [] (Ln.mk 4 bb ee [] 0 0 0 0 (V.mk 2 7 ee []) [] []) pr (V.mk 6 0 ee [(aa, nm k)]) (V.mk 6 0 ee (fs p q)) true = some (rc k q, 0) := put10 k hk p hd.1 q hd.2
      rw [show decide ((n : Int) ≥ 0) = true from decide_eq_true (by omega)]
      simp only [cond_true]
      rw [gl_t hgl]
      simp only
      rw [gr_t (by omega), Int.toNat_natCast, Nat.zero_add, gn_t h1]
      simp only [sbr]
      rw [gl_0]
      simp only
      rw [gl_0]
      simp only
      rw [hp]
      simp only [bso, sbr, show ((0 : Int) != 0) = false from rfl, cond_false]
      rw [gr_t (by rw [hl]; omega), gn_t hg]
      simp only
      rw [List.map_cons, sa]
      refine (ih _ (by rw [List.length_set]; exact hU) _).trans ?_
      have er : rs la k (n : Int) = rc k q := by unfold rs; rw [if_pos (by omega), Int.toNat_natCast, hx]
      rw [er]
      have eu : upd U (n : Int) = U.set n true := by unfold upd; rw [if_pos (by omega), Int.toNat_natCast]
      rw [eu]
      simp
    · have hp : (S1062 10).1 [] (Ln.mk 4 bb ee [] 0 0 0 0 (V.mk 2 7 ee []) [] []) pr (V.mk 6 0 ee [(aa, nm k)]) (V.mk 0 0 ee []) false = some (rc k 7, 0) := new10 k hk
      rw [show decide (j ≥ 0) = false from decide_eq_false h0]
      simp only [cond_false, sbr]
      rw [gl_0]
      simp only
      rw [gl_0]
      simp only
      rw [hp]
      simp only [bso, sbr, show ((0 : Int) != 0) = false from rfl, cond_false]
      rw [gr_t (by rw [hl]; omega), gn_t hg]
      simp only
      rw [List.map_cons, sa]
      refine (ih _ hU _).trans ?_
      have er : rs la k j = rc k 7 := by unfold rs; rw [if_neg h0]
      have eu : upd U j = U := by unfold upd; rw [if_neg h0]
      rw [er, eu]
      simp
end Go.Clap
