/- The law AlignPuts: plain part. -/
import Derived.Test.YthhdejjjcaamiaaGreatDoorClapS4
set_option linter.unusedVariables false
set_option linter.unusedSimpArgs false
set_option maxRecDepth 1000000
set_option maxHeartbeats 4000000
namespace Go.Clap

theorem same_s : ∀ a ∈ dig, ∀ b ∈ dig, f11 12 (rc a b) (rc a b) = some true := tab2 (by kernel_rfl)
theorem below9 (x : Int) : ∃ y : Int, 0 ≤ y ∧ y < 9 ∧ f26 x 9 = some y := by
  unfold f26
  dsimp only
  rw [gr_t (by decide)]
  have h1 : Int.tmod x 9 < 9 ∧ -9 < Int.tmod x 9 := ⟨Int.tmod_lt_of_pos x (by decide), by have := Int.lt_tmod_of_pos x (by decide : (0 : Int) < 9); omega⟩
  generalize Int.tmod x 9 = r at h1
  by_cases h : r < 0
  · refine ⟨r + 9, by omega, by omega, ?_⟩
    simp only [h, decide_true, cond_true]
    rw [wi (by omega) (by omega)]
  · refine ⟨r, by omega, h1.1, ?_⟩
    simp only [h, decide_false, cond_false]
theorem list_l : ∀ (l : List Int) (j : Nat) (A : List (Int × Int)), A.length + l.length ≤ 1000 → (∀ x ∈ A, Dg x) → ∃ la : List (Int × Int), la.length = A.length + l.length ∧ (∀ x ∈ la, Dg x) ∧ f8_L2 l j (A.map El) = some (.inr (la.map El))
  | [], j, A, _, hA => ⟨A, by simp, hA, by rw [f8_L2]⟩
  | x :: t, j, A, hb, hA => by
    obtain ⟨y, y0, y9, hy⟩ := below9 x
    simp only [List.length_cons] at hb
    have e4 : ∀ a b, f30 a b = some (rc a b) := fun _ _ => rfl
    have hd : ∀ z : Int, 0 ≤ z → z < 10 → z ∈ dig := fun z h0 h1 => by
      have : z = 0 ∨ z = 1 ∨ z = 2 ∨ z = 3 ∨ z = 4 ∨ z = 5 ∨ z = 6 ∨ z = 7 ∨ z = 8 ∨ z = 9 := by omega
      simp only [dig, List.mem_cons, List.not_mem_nil, or_false]
      exact this
    have q : y = 0 ∨ y = 1 ∨ y = 2 ∨ y = 3 ∨ y = 4 ∨ y = 5 ∨ y = 6 ∨ y = 7 ∨ y = 8 := by omega
    have hq : Dg (IntKind.wrap .i64 (Int.tdiv y 3), Int.tmod y 3) := by
      rcases q with rfl | rfl | rfl | rfl | rfl | rfl | rfl | rfl | rfl <;> exact ⟨by decide, by decide⟩
    rw [f8_L2, hy]
    simp only [bso, e4]
    rw [gr_t (by rw [List.length_map]; simp; omega)]
    have hA' : ∀ x ∈ A ++ [(IntKind.wrap .i64 (Int.tdiv y 3), Int.tmod y 3)], Dg x := by
      intro x hx
      rcases List.mem_append.1 hx with h | h
      · exact hA x h
      · rw [List.mem_singleton.1 h]; exact hq
    obtain ⟨la, h1, h2, h3⟩ := list_l t (j + 1) (A ++ [(IntKind.wrap .i64 (Int.tdiv y 3), Int.tmod y 3)]) (by simp; omega) hA'
    refine ⟨la, by rw [h1]; simp; omega, h2, ?_⟩
    rw [List.map_append] at h3
    exact h3
theorem list_v (l : List Int) : ∃ la : List (Int × Int), la.length ≤ 7 ∧ (∀ x ∈ la, Dg x) ∧ f8 l = some (V.mk 8 0 ee (la.map El)) := by
  unfold f8
  dsimp only
  obtain ⟨k, hk⟩ : ∃ k : Nat, (if 7 < ((l.length : Nat) : Int) then 7 else ((l.length : Nat) : Int)) = k ∧ k ≤ 7 ∧ k ≤ l.length := by
    split
    · exact ⟨7, rfl, by omega, by omega⟩
    · exact ⟨l.length, rfl, by omega, by omega⟩
  rw [hk.1, gr_t (by omega), Int.toNat_natCast, List.drop_zero]
  obtain ⟨la, h1, h2, h3⟩ := list_l (l.take (k - 0)) 0 [] (by simp; omega) (by simp)
  refine ⟨la, by rw [h1]; simp; omega, h2, ?_⟩
  rw [List.map_nil] at h3
  rw [h3]
  rfl

/-- The elements that were put are what they should be. -/
theorem last_l {la : List (Int × Int)} (ha : ∀ x ∈ la, Dg x) : ∀ (rb : List (Int × Int)) (Db Dv : List (ByteArray × V)) (U : List Bool), (∀ x ∈ rb, Dg x) → U.length = la.length → Db.length = Dv.length →
    f1076_L2 12 (la.map El) (Db ++ rb.map El) (Dv ++ outs la (rb.map (·.1)) U) (mts (la.map (·.1)) (rb.map (·.1)) U) Db.length = some (.inr ())
  | [], Db, Dv, U, _, _, _ => by
    show f1076_L2 12 (la.map El) _ _ [] _ = _
    rw [f1076_L2]
  | (k, q) :: rb, Db, Dv, U, h, hU, hD => by
    have hx := h (k, q) List.mem_cons_self
    have hgb : (Db ++ ((k, q) :: rb).map El)[Db.length]? = some (ee, rc k q) := ga Db _ _
    have ho : outs la (((k, q) :: rb).map (·.1)) U = (ee, rs la k (fnd U k (la.map (·.1)) 0)) :: outs la (rb.map (·.1)) (upd U (fnd U k (la.map (·.1)) 0)) := rfl
    have hm : mts (la.map (·.1)) (((k, q) :: rb).map (·.1)) U = fnd U k (la.map (·.1)) 0 :: mts (la.map (·.1)) (rb.map (·.1)) (upd U (fnd U k (la.map (·.1)) 0)) := rfl
    have hgv : (Dv ++ outs la (((k, q) :: rb).map (·.1)) U)[Db.length]? = some (ee, rs la k (fnd U k (la.map (·.1)) 0)) := by rw [ho, hD]; exact ga Dv _ _
    have ih := last_l ha rb (Db ++ [(ee, rc k q)]) (Dv ++ [(ee, rs la k (fnd U k (la.map (·.1)) 0))]) (upd U (fnd U k (la.map (·.1)) 0)) (fun x hx => h x (List.mem_cons_of_mem _ hx)) (by rw [upd_len]; exact hU) (by simp [hD])
    have e1 : (Db ++ [((ee : ByteArray), rc k q)]).length = Db.length + 1 := by simp
    rw [e1, List.append_assoc, List.append_assoc] at ih
    have e4 : ∀ a b, f30 a b = some (rc a b) := fun _ _ => rfl
    have hsm : ∀ z, z ∈ dig → rs la k (fnd U k (la.map (·.1)) 0) = rc k z → f11 12 (rs la k (fnd U k (la.map (·.1)) 0)) (rc k z) = some true := fun z hz e => by rw [e]; exact same_s k hx.1 z hz
    rw [hm, f1076_L2, gl_t hgb]
    simp only
    rw [gl_0]
    simp only
    rw [e4]
    simp only [bso, sbr]
    obtain ⟨j, hj⟩ : ∃ j, j = fnd U k (la.map (·.1)) 0 := ⟨_, rfl⟩
    rw [← hj] at hgv ih hsm ⊢
    by_cases h0 : 0 ≤ j
    · obtain ⟨h1, i, h2, h3⟩ := fnd_spec U k (la.map (·.1)) 0 (hj ▸ h0)
      rw [← hj] at h1 h2
      obtain ⟨n, rfl⟩ : ∃ n : Nat, j = n := ⟨j.toNat, by omega⟩
      rw [Int.toNat_natCast] at h1
      have hn : n < la.length := by have := (List.getElem?_eq_some_iff.1 h1).1; omega
      obtain ⟨x, hx'⟩ : ∃ x, la[n]? = some x := ⟨la[n], List.getElem?_eq_getElem hn⟩
      have hd := ha x (List.mem_of_getElem? hx')
      have hin : i = n := by omega
      subst hin
      have hkx : x.1 = k := by
        rw [List.getElem?_map, hx'] at h3
        simpa using h3
      have hgl : (la.map El)[i]? = some (El x) := by rw [List.getElem?_map, hx']; rfl
      obtain ⟨p, z⟩ := x
      obtain rfl : p = k := hkx
      have er : rs la p (i : Int) = rc p z := by unfold rs; rw [if_pos (by omega), Int.toNat_natCast, hx']
      rw [show decide ((i : Int) ≥ 0) = true from decide_eq_true (by omega), show decide ((i : Int) < (((la.map El).length : Nat) : Int)) = true from decide_eq_true (by rw [List.length_map]; omega)]
      simp only [cond_true]
      rw [gl_t hgl]
      simp only [sbr]
      rw [gl_t hgv]
      have h5 := hsm z hd.2 er
      rw [er] at h5 ⊢
      simp only
      rw [h5]
      simp only [bso, cond_true]
      rw [er] at ih
      rw [ho, ← hj, er]
      exact ih
    · have er : rs la k j = rc k 7 := by unfold rs; rw [if_neg h0]
      rw [show decide (j ≥ 0) = false from decide_eq_false h0]
      simp only [cond_false, sbr]
      rw [gl_t hgv]
      have h5 := hsm 7 dig7 er
      rw [er] at h5 ⊢
      simp only
      rw [h5]
      simp only [bso, cond_true]
      rw [er] at ih
      rw [ho, ← hj, er]
      exact ih

theorem st_t : f1077 12 = some true := by kernel_rfl
theorem puts_true (x y : List Int) : f1076 12 x y = some true := by
  obtain ⟨la, la7, hla, ea⟩ := list_v x
  obtain ⟨lb, lb7, hlb, eb⟩ := list_v y
  have hka : ∀ k ∈ la.map (·.1), k ∈ dig := fun k hk => by obtain ⟨z, hz, rfl⟩ := List.mem_map.1 hk; exact (hla z hz).1
  have hkb : ∀ k ∈ lb.map (·.1), k ∈ dig := fun k hk => by obtain ⟨z, hz, rfl⟩ := List.mem_map.1 hk; exact (hlb z hz).1
  have wa : la.map Wl = (la.map (·.1)).map onl := by rw [List.map_map]; rfl
  have wb : lb.map Wl = (lb.map (·.1)).map onl := by rw [List.map_map]; rfl
  have e1 : f325 = some (dp bb 7) := rfl
  have e3 : f1029 = some pr := rfl
  have gb := get_l hlb lb7
  have g_a := get_l hla la7
  have pu := put_l (la := la) (ks := lb.map (·.1)) hla hkb la7 (by rw [List.length_map]; exact lb7)
  have bk := bykey_l hka hkb (by rw [List.length_map]; exact la7) (by rw [List.length_map]; exact lb7)
  rw [List.length_map] at bk
  obtain ⟨l, kp⟩ := kept_l (n := la.length) (m := lb.length) (mts_vj (la.map (·.1)) (lb.map (·.1)) (List.replicate la.length false)) (by rw [mts_len, List.length_map]) la7 lb7
  have ls := last_l hla lb [] [] (List.replicate la.length false) hlb (by simp) rfl
  simp only [List.length_nil, List.nil_append] at ls
  rw [wa] at g_a
  rw [wb] at gb
  unfold f1076
  dsimp only
  rw [ea]
  simp only [bso]
  rw [eb]
  simp only [bso, sbr]
  rw [e3]
  simp only [bso, sbr]
  rw [e1]
  simp only [bso, sbr]
  rw [gb]
  simp only [bso, sbr]
  rw [g_a]
  simp only [bso, sbr]
  rw [st_t]
  simp only [bso, cond_true, show ((0 : Int) != 0) = false from rfl, cond_false]
  rw [pu]
  simp only [bso, sbr]
  rw [bk]
  simp only [bso, sbr, show ((0 : Int) != 0) = false from rfl, cond_false]
  have hol : (((outs la (lb.map (·.1)) (List.replicate la.length false)).length : Nat) : Int) = (((lb.map El).length : Nat) : Int) := by rw [outs_len, List.length_map, List.length_map]
  have hml : (((mts (la.map (·.1)) (lb.map (·.1)) (List.replicate la.length false)).length : Nat) : Int) = (((lb.map El).length : Nat) : Int) := by rw [mts_len, List.length_map, List.length_map]
  rw [hol, bne_self_eq_false]
  simp only [cond_false]
  have hla' : (((la.map El).length : Nat) : Int) = (la.length : Int) := by rw [List.length_map]
  have hlb' : (((lb.map El).length : Nat) : Int) = (lb.length : Int) := by rw [List.length_map]
  rw [hla', hlb', kp]
  simp only [bso, sbr, show ((0 : Int) != 0) = false from rfl, cond_false]
  rw [hml, hlb', bne_self_eq_false]
  simp only [cond_false]
  rw [ls]
  rfl
end Go.Clap
