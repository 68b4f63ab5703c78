/- Lists of small records: put, the alignment by a key, what is kept. -/
import Derived.Test.YthhdejjjcaamiaaGreatDoorClapS3
set_option linter.unusedVariables false
set_option linter.unusedSimpArgs false
set_option maxRecDepth 1000000
set_option maxHeartbeats 4000000
namespace Go.Clap

theorem dig7 : (7 : Int) ∈ dig := by decide
theorem outs_ge {la : List (Int × Int)} (ha : ∀ x ∈ la, Dg x) : ∀ (r : List Int) (U : List Bool), (∀ k ∈ r, k ∈ dig) → ∀ x ∈ outs la r U, GE pr x
  | [], U, _, x, hx => by cases hx
  | k :: r, U, h, x, hx => by
    unfold outs at hx
    rcases List.mem_cons.1 hx with rfl | hx
    · unfold rs
      refine ge_rc (h k List.mem_cons_self) ?_
      split
      · split
        · rename_i y hy; exact (ha y (List.mem_of_getElem? hy)).2
        · exact dig7
      · exact dig7
    · exact outs_ge ha r _ (fun k hk => h k (List.mem_cons_of_mem _ hk)) x hx
theorem outs_len {la : List (Int × Int)} : ∀ (r : List Int) (U : List Bool), (outs la r U).length = r.length
  | [], _ => rfl
  | k :: r, U => by unfold outs; rw [List.length_cons, outs_len r, List.length_cons]

theorem res_t : f66 11 [] (lt pr) = some (lt pr, 0) := by kernel_rfl
theorem put_l {la : List (Int × Int)} {ks : List Int} (ha : ∀ x ∈ la, Dg x) (hk : ∀ k ∈ ks, k ∈ dig) (hl : la.length ≤ 7) (hm : ks.length ≤ 7) :
    f1061 12 [] LE (lt pr) (V.mk 8 0 ee (ks.map fun k => (ee, on aa k))) (V.mk 8 0 ee (la.map El)) = some (V.mk 8 0 ee (outs la ks (List.replicate la.length false)), 0) := by
  have hw : ∀ x ∈ ks.map (fun k => ((ee : ByteArray), on aa k)), GE o1 x := by
    intro x hx
    obtain ⟨k, hk', rfl⟩ := List.mem_map.1 hx
    exact ge_on (hk k hk')
  have hlw : (ks.map (fun k => ((ee : ByteArray), on aa k))).length ≤ 7 := by rw [List.length_map]; exact hm
  have hla : (la.map El).length ≤ 7 := by rw [List.length_map]; exact hl
  have ho := outs_ge ha ks (List.replicate la.length false) hk
  have hol : (outs la ks (List.replicate la.length false)).length ≤ 7 := by rw [outs_len]; exact hm
  unfold f1061
  dsimp only
  rw [vw_t]
  simp only [bso, show ((0 : Int) != 0) = false from rfl, cond_false]
  rw [has_l rt_o1 hw hlw]
  simp only [bso, cond_true]
  rw [has_l rt_pr (ge_E ha) hla]
  simp only [bso, cond_true]
  rw [copy_l hw hlw]
  simp only [bso]
  rw [copy_l (ge_E ha) hla]
  simp only [bso]
  have e : f1062 12 [] LE (lt pr) (V.mk 8 0 ee (ks.map fun k => (ee, on aa k))) (V.mk 8 0 ee (la.map El)) true = some (V.mk 8 0 ee (outs la ks (List.replicate la.length false)), 0) := by
    have e1 : f1062 12 = b1062 11 (S1062 11).2 := rfl
    have e2 : (S1062 11).2 = b1074 10 (S1062 10).1 := rfl
    rw [e1]
    unfold b1062 f79
    dsimp only
    rw [res_t, gr_t (by omega), e2]
    simp only [bso, show ((13 : Int) == 0) = false from rfl, show ((13 : Int) == 1) = false from rfl, show ((13 : Int) == 16) = false from rfl, show ((13 : Int) == 17) = false from rfl, show ((13 : Int) == 18) = false from rfl, show ((13 : Int) == 11) = false from rfl, show ((13 : Int) == 12) = false from rfl, show ((13 : Int) == 13) = true from rfl, show ((0 : Int) != 0) = false from rfl, cond_false, cond_true]
    unfold b1074
    dsimp only
    rw [gr_t (by omega), gr_t (by omega), show ((((ks.map fun k => ((ee : ByteArray), on aa k)).length : Nat) : Int) - 0).toNat = ks.length by rw [List.length_map]; omega, show (((la.map El).length : Nat) : Int).toNat = la.length by rw [List.length_map]; omega]
    have := each_l ha ks [] (List.replicate la.length false) hk (by simp)
    simp only [List.length_nil, List.nil_append, show ((0 : Nat) : Int) = 0 from rfl] at this
    rw [this]
    rfl
  rw [e]
  simp only [bso]
  unfold f1067
  dsimp only
  simp only [bso, show ((0 : Int) != 0) = false from rfl, cond_false]
  rw [check_l ho hol]
  simp only [bso, show ((0 : Int) != 0) = false from rfl, cond_false]
  rw [copy_l ho hol]
  rfl

-- the alignment by a key
abbrev onl (k : Int) : ByteArray × V := (ee, on aa k)
theorem get12 : ∀ k ∈ dig, f35 12 (on aa k) aa = some (nm k, true) := tab1 (by kernel_rfl)
theorem same12 : ∀ a ∈ dig, ∀ b ∈ dig, f11 12 (nm a) (nm b) = some (decide (a = b)) := tab2 (by kernel_rfl)
/-- The pairs that indices make. -/
def prl : List Int → Nat → List (Int × Int)
  | [], _ => []
  | j :: r, i => if 0 ≤ j then (j, (i : Int)) :: prl r (i + 1) else prl r (i + 1)
theorem ge_ks {ks : List Int} (hk : ∀ k ∈ ks, k ∈ dig) : ∀ x ∈ ks.map onl, GE o1 x := by
  intro x hx
  obtain ⟨k, hk', rfl⟩ := List.mem_map.1 hx
  exact ge_on (hk k hk')
theorem bk10 : ∀ (r : List Int) (j : Nat), (∀ k ∈ r, k ∈ dig) → f16_L10 12 aa (r.map onl) j = some (.inr ())
  | [], j, _ => by
    show f16_L10 12 aa [] j = _
    rw [f16_L10]
  | k :: r, j, h => by
    have hg : f35 12 (V.mk 6 0 ee [(aa, nm k)]) aa = some (nm k, true) := get12 k (h k List.mem_cons_self)
    show f16_L10 12 aa ((ee, V.mk 6 0 ee [(aa, nm k)]) :: r.map onl) j = _
    rw [f16_L10, hg]
    simp only [bso, show ((6 : Int) != 6) = false from rfl, cond_false, cond_true]
    exact bk10 r (j + 1) (fun k hk => h k (List.mem_cons_of_mem _ hk))
theorem bk20 (i : Nat) (U : List Bool) (P : List (Int × Int)) {k : Int} (hk : k ∈ dig) (hP : P.length ≤ 1000) : ∀ (r : List Int) (j : Nat), (∀ k ∈ r, k ∈ dig) → j + r.length ≤ U.length →
    f16_L20 12 aa i U P 2 k ee [] (r.map onl) j = some (.inr (upd U (fnd U k r j), if 0 ≤ fnd U k r j then P ++ [(fnd U k r j, (i : Int))] else P))
  | [], j, _, _ => by
    show f16_L20 12 aa i U P 2 k ee [] [] j = _
    rw [f16_L20]; rfl
  | p :: r, j, h, hj => by
    have hp := h p List.mem_cons_self
    simp only [List.length_cons] at hj
    have hjl : j < U.length := by omega
    obtain ⟨b, hb⟩ : ∃ b, U[j]? = some b := ⟨U[j], List.getElem?_eq_getElem hjl⟩
    have hg : f35 12 (V.mk 6 0 ee [(aa, nm p)]) aa = some (nm p, true) := get12 p hp
    have ih := bk20 i U P hk hP r (j + 1) (fun x hx => h x (List.mem_cons_of_mem _ hx)) (by omega)
    show f16_L20 12 aa i U P 2 k ee [] ((ee, V.mk 6 0 ee [(aa, nm p)]) :: r.map onl) j = _
    rw [f16_L20, hg]
    simp only [bso]
    rw [gr_t (by omega), Int.toNat_natCast, Nat.zero_add, gn_t hb]
    cases b with
    | true =>
      rw [fnd_no (by rw [hb]; simp)]
      exact ih
    | false =>
      simp only [cond_false]
      rw [same12 k hk p hp]
      by_cases e : p = k
      · rw [fnd_yes ⟨hb, e⟩]
        simp only [e, decide_true, bso, cond_true]
        rw [gr_t (by omega), gn_t hb, gr_t (by simp; omega)]
        unfold upd
        rw [if_pos (by omega), if_pos (by omega), Int.toNat_natCast]
      · rw [fnd_no (fun hh => e hh.2)]
        have e' : ¬ k = p := fun h => e h.symm
        simp only [e', decide_false, bso, cond_false]
        exact ih
theorem bk18 {ka : List Int} (hka : ∀ k ∈ ka, k ∈ dig) : ∀ (r : List Int) (i : Nat) (U : List Bool) (P : List (Int × Int)), (∀ k ∈ r, k ∈ dig) → ka.length = U.length → P.length ≤ i → i + r.length ≤ 7 →
    f16_L18 12 (ka.map onl) aa (r.map onl) i U P = some (.inr (P ++ prl (mts ka r U) i))
  | [], i, U, P, _, _, _, _ => by
    show f16_L18 12 (ka.map onl) aa [] i U P = _
    rw [f16_L18]
    simp [mts, prl]
  | k :: r, i, U, P, h, hU, hP, hi => by
    have hk := h k List.mem_cons_self
    simp only [List.length_cons] at hi
    have hg : f35 12 (V.mk 6 0 ee [(aa, nm k)]) aa = some (nm k, true) := get12 k hk
    show f16_L18 12 (ka.map onl) aa ((ee, V.mk 6 0 ee [(aa, nm k)]) :: r.map onl) i U P = _
    rw [f16_L18, hg]
    simp only [bso]
    rw [bk20 i U P hk (by omega) ka 0 hka (by omega)]
    simp only [sbr]
    have hl : (if 0 ≤ fnd U k ka 0 then P ++ [(fnd U k ka 0, (i : Int))] else P).length ≤ i + 1 := by
      split
      · rw [List.length_append]; simp; omega
      · omega
    rw [bk18 hka r (i + 1) _ _ (fun k hk => h k (List.mem_cons_of_mem _ hk)) (by rw [upd_len]; exact hU) hl (by omega)]
    rw [show mts ka (k :: r) U = fnd U k ka 0 :: mts ka r (upd U (fnd U k ka 0)) from rfl, show ∀ (j : Int) (l : List Int), prl (j :: l) i = if 0 ≤ j then (j, (i : Int)) :: prl l (i + 1) else prl l (i + 1) from fun _ _ => rfl]
    split
    · rw [List.append_assoc]; rfl
    · rfl
theorem bykey_l {ka kb : List Int} (ha : ∀ k ∈ ka, k ∈ dig) (hb : ∀ k ∈ kb, k ∈ dig) (hl : ka.length ≤ 7) (hm : kb.length ≤ 7) :
    f16 12 (V.mk 8 0 ee (ka.map onl)) (V.mk 8 0 ee (kb.map onl)) aa = some (prl (mts ka kb (List.replicate ka.length false)) 0, 0) := by
  have c1 := check_l (ge_ks ha) (by rw [List.length_map]; exact hl)
  have c2 := check_l (ge_ks hb) (by rw [List.length_map]; exact hm)
  have e : f31 12 (V.mk 8 0 ee (ka.map onl)) (V.mk 8 0 ee (kb.map onl)) = some 0 := by
    unfold f31
    dsimp only
    rw [f31_L2, c1]
    simp only [bso, show ((0 : Int) != 0) = false from rfl, show ((8 : Int) != 8) = false from rfl, cond_false]
    rw [f31_L2, c2]
    simp only [bso, show ((0 : Int) != 0) = false from rfl, show ((8 : Int) != 8) = false from rfl, cond_false]
    rw [f31_L2]
    rfl
  unfold f16
  dsimp only
  rw [e]
  simp only [bso, show ((0 : Int) != 0) = false from rfl, cond_false]
  rw [f16_L8, bk10 ka 0 ha]
  simp only [sbr]
  rw [f16_L8, bk10 kb 0 hb]
  simp only [sbr]
  rw [f16_L8]
  simp only [sbr]
  rw [gr_t (by rw [List.length_map]; omega), show (((ka.map onl).length : Nat) : Int).toNat = ka.length by rw [List.length_map]; omega]
  rw [bk18 ha kb 0 _ [] hb (by simp) (by simp) (by omega)]
  rfl

-- what is kept
/-- Indices that are found one behind the other. -/
def VJ : List Int → List Bool → Prop
  | [], _ => True
  | j :: r, U => (j = -1 ∨ 0 ≤ j ∧ U[j.toNat]? = some false) ∧ VJ r (upd U j)
theorem mts_vj (ks : List Int) : ∀ (r : List Int) (U : List Bool), VJ (mts ks r U) U
  | [], U => trivial
  | k :: r, U => by
    refine ⟨?_, mts_vj ks r _⟩
    rcases fnd_ge U k ks 0 with h | h
    · exact .inl h
    · exact .inr ⟨by omega, (fnd_spec U k ks 0 (by omega)).1⟩
theorem mts_len (ks : List Int) : ∀ (r : List Int) (U : List Bool), (mts ks r U).length = r.length
  | [], _ => rfl
  | k :: r, U => by unfold mts; rw [List.length_cons, mts_len ks r, List.length_cons]
theorem chk_i (n m : Nat) : ∀ (js : List Int) (i c : Nat) (U R : List Bool), VJ js U → U.length = n → R.length = m → i + js.length = m → (∀ y, i ≤ y → y < m → R[y]? = some false) →
    f12_L2 n m (prl js i) c U R = some (.inr ())
  | [], i, c, U, R, _, _, _, _, _ => by
    show f12_L2 n m [] c U R = _
    rw [f12_L2]
  | j :: r, i, c, U, R, hv, hU, hR, hi, hf => by
    obtain ⟨h1, h2⟩ := hv
    simp only [List.length_cons] at hi
    unfold prl
    by_cases h0 : 0 ≤ j
    · have hu : U[j.toNat]? = some false := by
        rcases h1 with h1 | h1
        · omega
        · exact h1.2
      obtain ⟨q, rfl⟩ : ∃ q : Nat, j = q := ⟨j.toNat, by omega⟩
      rw [Int.toNat_natCast] at hu
      have hq : q < U.length := (List.getElem?_eq_some_iff.1 hu).1
      have hr := hf i (Nat.le_refl _) (by omega)
      rw [if_pos h0, f12_L2]
      rw [show decide ((q : Int) < 0) = false from decide_eq_false (by omega), show decide ((q : Int) ≥ (n : Int)) = false from decide_eq_false (by omega), show decide ((i : Int) < 0) = false from decide_eq_false (by omega), show decide ((i : Int) ≥ (m : Int)) = false from decide_eq_false (by omega)]
      simp only [cond_false]
      rw [gr_t (by omega), Int.toNat_natCast, Nat.zero_add, gn_t hu]
      simp only [cond_false]
      rw [gr_t (by omega), Int.toNat_natCast, Nat.zero_add, gn_t hr]
      simp only [cond_false]
      rw [gr_t (by omega), gn_t hu, gr_t (by omega), gn_t hr]
      have eu : upd U (q : Int) = U.set q true := by unfold upd; rw [if_pos h0, Int.toNat_natCast]
      rw [eu] at h2
      refine chk_i n m r (i + 1) (c + 1) _ _ h2 (by rw [List.length_set]; exact hU) (by rw [List.length_set]; exact hR) (by omega) (fun y h3 h4 => ?_)
      rw [List.getElem?_set_ne (by omega)]
      exact hf y (by omega) h4
    · have eu : upd U j = U := by unfold upd; rw [if_neg h0]
      rw [eu] at h2
      rw [if_neg h0]
      exact chk_i n m r (i + 1) c U R h2 hU hR (by omega) (fun y h3 h4 => hf y (by omega) h4)
theorem kp2 : ∀ (g : Nat) (D : List Int), f17_L2 g (D.length : Int) (D ++ List.replicate g 0) = some (.inr (D ++ List.replicate g (-1)))
  | 0, D => by rw [f17_L2]; simp
  | g + 1, D => by
    have hl : (D ++ List.replicate (g + 1) (0 : Int)).length = D.length + g + 1 := by simp; omega
    rw [f17_L2, gr_t (by rw [hl]; omega), Int.toNat_natCast, Nat.zero_add, List.replicate_succ, gn_t (ga D 0 _), sa]
    have ih := kp2 g (D ++ [-1])
    rw [show (((D ++ [(-1 : Int)]).length : Nat) : Int) = (D.length : Int) + 1 by simp] at ih
    rw [ih, List.replicate_succ]
    simp
theorem kp4 : ∀ (js : List Int) (c : Nat) (D : List Int) (U : List Bool), VJ js U → ∃ U', f17_L4 (prl js D.length) c (D ++ List.replicate js.length (-1)) U = some (.inr (D ++ js, U')) ∧ U'.length = U.length
  | [], c, D, U, _ => ⟨U, by
    show f17_L4 [] c (D ++ []) U = _
    rw [f17_L4], rfl⟩
  | j :: r, c, D, U, hv => by
    obtain ⟨h1, h2⟩ := hv
    have hl : (D ++ List.replicate (r.length + 1) (-1 : Int)).length = D.length + r.length + 1 := by simp; omega
    unfold prl
    rw [List.length_cons]
    by_cases h0 : 0 ≤ j
    · have hu : U[j.toNat]? = some false := by
        rcases h1 with h1 | h1
        · omega
        · exact h1.2
      obtain ⟨q, rfl⟩ : ∃ q : Nat, j = q := ⟨j.toNat, by omega⟩
      rw [Int.toNat_natCast] at hu
      have hq : q < U.length := (List.getElem?_eq_some_iff.1 hu).1
      have eu : upd U (q : Int) = U.set q true := by unfold upd; rw [if_pos h0, Int.toNat_natCast]
      rw [eu] at h2
      obtain ⟨U', h3, h4⟩ := kp4 r (c + 1) (D ++ [(q : Int)]) _ h2
      refine ⟨U', ?_, by rw [h4, List.length_set]⟩
      rw [if_pos h0, f17_L4, gr_t (by rw [hl]; omega), Int.toNat_natCast, Nat.zero_add, List.replicate_succ, gn_t (ga D (-1) _), gr_t (by omega), Int.toNat_natCast, Nat.zero_add, gn_t hu, sa]
      rw [show (D ++ [(q : Int)]).length = D.length + 1 by simp] at h3
      rw [h3]
      simp
    · have eu : upd U j = U := by unfold upd; rw [if_neg h0]
      rw [eu] at h2
      have ej : j = -1 := by
        rcases h1 with h1 | h1
        · exact h1
        · omega
      subst ej
      obtain ⟨U', h3, h4⟩ := kp4 r c (D ++ [-1]) _ h2
      refine ⟨U', ?_, h4⟩
      rw [if_neg h0, List.replicate_succ]
      rw [show (D ++ [(-1 : Int)]).length = D.length + 1 by simp] at h3
      have e : D ++ -1 :: List.replicate r.length (-1) = D ++ [-1] ++ List.replicate r.length (-1) := by simp
      rw [e, h3]
      simp
theorem kp6 (U : List Bool) : ∀ (g v : Nat) (l : List Int), v + g = U.length → l.length ≤ v → U.length ≤ 1000 → ∃ l', f17_L6 U g (v : Int) l = some (.inr l')
  | 0, v, l, _, _, _ => ⟨l, by rw [f17_L6]⟩
  | g + 1, v, l, e, hl, hU => by
    have hv : v < U.length := by omega
    obtain ⟨b, hb⟩ : ∃ b, U[v]? = some b := ⟨U[v], List.getElem?_eq_getElem hv⟩
    rw [f17_L6, gr_t (by omega), Int.toNat_natCast, Nat.zero_add, gn_t hb]
    cases b with
    | true => exact kp6 U g (v + 1) l (by omega) (by omega) hU
    | false =>
      simp only [cond_false]
      rw [gr_t (by simp; omega)]
      exact kp6 U g (v + 1) _ (by omega) (by simp; omega) hU
theorem kept_l {js : List Int} {n m : Nat} (hv : VJ js (List.replicate n false)) (hj : js.length = m) (hn : n ≤ 7) (hm : m ≤ 7) : ∃ l, f17 (prl js 0) (n : Int) (m : Int) = some (js, l, 0) := by
  have e : f12 (prl js 0) (n : Int) (m : Int) = some 0 := by
    unfold f12
    dsimp only
    rw [show decide ((n : Int) < 0) = false from decide_eq_false (by omega), show decide ((m : Int) < 0) = false from decide_eq_false (by omega), show decide ((n : Int) > 200) = false from decide_eq_false (by omega), show decide ((m : Int) > 200) = false from decide_eq_false (by omega)]
    simp only [cond_false]
    rw [gr_t (by omega), gr_t (by omega)]
    simp only [sbr, Int.toNat_natCast]
    rw [chk_i n m js 0 0 _ _ hv (by simp) (by simp) (by omega) (fun y _ h => by rw [List.getElem?_replicate, if_pos h])]
    rfl
  unfold f17
  dsimp only
  rw [e]
  simp only [bso, show ((0 : Int) != 0) = false from rfl, cond_false]
  rw [gr_t (by omega), gr_t (by omega), Int.toNat_natCast, show (((m : Nat) : Int) - 0).toNat = m by omega]
  have k2 := kp2 m []
  simp only [List.length_nil, List.nil_append, show ((0 : Nat) : Int) = 0 from rfl] at k2
  rw [k2]
  simp only [sbr]
  rw [gr_t (by omega), Int.toNat_natCast]
  obtain ⟨U', k4, hU'⟩ := kp4 js 0 [] (List.replicate n false) hv
  simp only [List.length_nil, List.nil_append, hj] at k4
  rw [k4]
  simp only [sbr]
  rw [List.length_replicate] at hU'
  rw [gr_t (by omega), show (((U'.length : Nat) : Int) - 0).toNat = U'.length by omega]
  obtain ⟨l, k6⟩ := kp6 U' U'.length 0 [] (by omega) (by simp) (by omega)
  simp only [show ((0 : Nat) : Int) = 0 from rfl] at k6
  exact ⟨l, by rw [k6]; rfl⟩
end Go.Clap
