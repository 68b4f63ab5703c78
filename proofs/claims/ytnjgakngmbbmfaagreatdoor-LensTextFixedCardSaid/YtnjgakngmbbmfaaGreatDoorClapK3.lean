/- The checks of the small code against the loaded functions. -/
import Derived.Test.YtnjgakngmbbmfaaGreatDoorClapK2
import Derived.Test.YtnjgakngmbbmfaaGreatDoorClapJ4
set_option linter.unusedVariables false
set_option linter.unusedSimpArgs false
set_option maxRecDepth 100000
namespace Go.Clap
open Go.IntKind (wrap)
def dg (u : UInt8) : Nat := if u.toNat ≤ 57 then u.toNat - 48 else u.toNat - 87
def val (l : List UInt8) (v : Nat) : Nat := l.foldl (fun a u => a * 16 + dg u) v
theorem hex_cases {u : UInt8} (h : u ∈ BL HX) : u = 48 ∨ u = 49 ∨ u = 50 ∨ u = 51 ∨ u = 52 ∨ u = 53 ∨ u = 54 ∨ u = 55 ∨ u = 56 ∨ u = 57 ∨ u = 97 ∨ u = 98 ∨ u = 99 ∨ u = 100 ∨ u = 101 ∨ u = 102 := by
 simpa [BL] using h
theorem dg_lt {u : UInt8} (h : u ∈ BL HX) : dg u < 16 ∧ (BL HX)[dg u]? = some u := by
 rcases hex_cases h with rfl | rfl | rfl | rfl | rfl | rfl | rfl | rfl | rfl | rfl | rfl | rfl | rfl | rfl | rfl | rfl <;> exact ⟨by decide, by decide⟩
theorem wu64 (n : Int) : wrap .u64 n = n % 18446744073709551616 := by simp [IntKind.wrap, IntKind.bits, IntKind.signed]
theorem hex_tail {d v : Int} (hd : 0 ≤ d) (hd' : d < 16) (h0 : 0 ≤ v) (h1 : v < 1152921504606846976) {tl : LI} {j : Nat} {R : Sum (Int × Option Int) Int → Prop} (h : sat (f1081_ParseUint_L2 16 64 1152921504606846976 tl (j + 1) (v * 16 + d)) R) :
 sat (cond (decide (d ≥ (wrap .u8 (16 : Int)))) (lft (some (0, (some (2 : Int))))) (cond (decide (v ≥ 1152921504606846976)) (lft (some ((wrap .u64 ((bShl .u64 1 (wrap .u64 (64 : Int))) - 1)), (some (1 : Int))))) (cond (decide ((wrap .u64 ((wrap .u64 (v * (wrap .u64 (16 : Int)))) + (wrap .u64 d))) < (wrap .u64 (v * (wrap .u64 (16 : Int)))))) (lft (some ((wrap .u64 ((bShl .u64 1 (wrap .u64 (64 : Int))) - 1)), (some (1 : Int))))) (cond (decide ((wrap .u64 ((wrap .u64 (v * (wrap .u64 (16 : Int)))) + (wrap .u64 d))) > (wrap .u64 ((bShl .u64 1 (wrap .u64 (64 : Int))) - 1)))) (lft (some ((wrap .u64 ((bShl .u64 1 (wrap .u64 (64 : Int))) - 1)), (some (1 : Int))))) (f1081_ParseUint_L2 (16 : Int) (64 : Int) 1152921504606846976 tl (j + 1) (wrap .u64 ((wrap .u64 (v * (wrap .u64 (16 : Int)))) + (wrap .u64 d)))))))) R := by
 have e0 : wrap .u8 16 = 16 := by decide
 have e1 : wrap .u64 16 = 16 := by decide
 have e2 : wrap .u64 d = d := by rw [wu64]; omega
 have e3 : wrap .u64 (v * 16) = v * 16 := by rw [wu64]; omega
 have e4 : wrap .u64 (v * 16 + d) = v * 16 + d := by rw [wu64]; omega
 have e5 : wrap .u64 ((bShl .u64 1 (wrap .u64 (64 : Int))) - 1) = 18446744073709551615 := by decide +kernel
 rw [e0, e1, e2, e3, e4, e5]
 exact i_cond (fun h => absurd (of_decide_eq_true h) (by omega)) fun _ => i_cond (fun h => absurd (of_decide_eq_true h) (by omega)) fun _ => i_cond (fun h => absurd (of_decide_eq_true h) (by omega)) fun _ => i_cond (fun h => absurd (of_decide_eq_true h) (by omega)) fun _ => h
theorem hex_step {u : UInt8} (hu : u ∈ BL HX) {v : Int} (h0 : 0 ≤ v) (h1 : v < 1152921504606846976) {tl : LI} {j : Nat} {R : Sum (Int × Option Int) Int → Prop}
 (h : sat (f1081_ParseUint_L2 16 64 1152921504606846976 tl (j + 1) (v * 16 + dg u)) R) : sat (f1081_ParseUint_L2 16 64 1152921504606846976 ((u.toNat : Int) :: tl) j v) R := by
 have hd := (dg_lt hu).1
 have key : ∃ D : Option (Sum (Sum (Int × Option Int) Int) Int), D = some (.inr (dg u : Int)) := ⟨_, rfl⟩
 unfold f1081_ParseUint_L2
 refine i_sbind ⟨.inr (dg u : Int), ?_, hex_tail (by omega) (by omega) h0 h1 h⟩
 clear h key
 rcases hex_cases hu with rfl | rfl | rfl | rfl | rfl | rfl | rfl | rfl | rfl | rfl | rfl | rfl | rfl | rfl | rfl | rfl <;> rfl
theorem val_cons (u : UInt8) (l : List UInt8) (v : Nat) : val (u :: l) v = val l (v * 16 + dg u) := rfl
theorem val_add : ∀ (l : List UInt8) (v : Nat), val l v = v * 16 ^ l.length + val l 0
 | [], v => by simp [val]
 | u :: l, v => by
  rw [val_cons, val_cons, val_add l (v * 16 + dg u), val_add l (0 * 16 + dg u), List.length_cons, Nat.pow_succ, Nat.add_mul, Nat.add_mul, Nat.mul_assoc, Nat.mul_comm 16, Nat.zero_mul]
  omega
theorem val_lt : ∀ (l : List UInt8), (∀ u ∈ l, u ∈ BL HX) → val l 0 < 16 ^ l.length
 | [], _ => by simp [val]
 | u :: l, h => by
  have h1 := val_lt l fun x hx => h x (List.mem_cons_of_mem _ hx)
  have h2 := (dg_lt (h u List.mem_cons_self)).1
  rw [val_cons, val_add, List.length_cons, Nat.pow_succ, Nat.zero_mul, Nat.zero_add]
  have h3 : dg u * 16 ^ l.length ≤ 15 * 16 ^ l.length := Nat.mul_le_mul_right _ (by omega)
  omega
theorem hex_loop : ∀ (l : List UInt8) (v : Nat) (j : Nat) (R : Sum (Int × Option Int) Int → Prop), (∀ u ∈ l, u ∈ BL HX) → (v + 1) * 16 ^ l.length ≤ 18446744073709551616 → R (.inr ((val l v : Nat) : Int)) →
 sat (f1081_ParseUint_L2 16 64 1152921504606846976 (l.map fun u => (u.toNat : Int)) j v) R
 | [], v, j, R, _, _, h => sat_mk h
 | u :: l, v, j, R, hm, hb, h => by
  have hd := (dg_lt (hm u List.mem_cons_self)).1
  have h1 : 1 ≤ 16 ^ l.length := Nat.one_le_pow _ _ (by decide)
  rw [List.length_cons, Nat.pow_succ, Nat.mul_comm _ 16, ← Nat.mul_assoc] at hb
  have hv : (v + 1) * 16 ≤ 18446744073709551616 := Nat.le_trans (Nat.le_mul_of_pos_right _ (by omega)) hb
  rw [List.map_cons]
  refine hex_step (hm u List.mem_cons_self) (by omega) (by omega) ?_
  have e : (v : Int) * 16 + (dg u : Int) = ((v * 16 + dg u : Nat) : Int) := by omega
  rw [e]
  refine hex_loop l _ _ R (fun x hx => hm x (List.mem_cons_of_mem _ hx)) (Nat.le_trans (Nat.mul_le_mul_right _ (by omega)) hb) h
def Hx16 (w : BA) : Prop := w.size = 16 ∧ ∀ u ∈ BL w, u ∈ BL HX
theorem pu16 {w : BA} (h : Hx16 w) : f1088_ParseUint w 16 64 = some (((val (BL w) 0 : Nat) : Int), true) := by
 have key : sat (f1081_ParseUint w 16 64) fun r => r = (((val (BL w) 0 : Nat) : Int), none) := by
  unfold f1081_ParseUint
  refine i_cond (fun hh => ?_) fun _ => i_cond (fun h => absurd h (by decide)) fun _ => i_cond (fun _ => i_cond (fun _ => ?_) fun h => absurd h (by decide)) fun h => absurd h (by decide)
  · exfalso
    have := k_eq hh
    subst this
    exact absurd h.1 (by decide)
  · refine i_any' (fun v => v = 64) ⟨_, rfl, _, rfl, rfl⟩ fun v hv => ?_
    subst hv
    refine i_any' (fun v => v = 1152921504606846976) ⟨_, rfl, _, rfl, rfl⟩ fun v hv => ?_
    subst hv
    have hsz := h.1
    refine i_grdP (by decide) (i_sbind (i_grdP (by omega) (hex_loop (BL w) 0 0 _ h.2 ?_ (sat_mk rfl))))
    rw [BL_len, hsz]
    decide
 obtain ⟨r, hr, rfl⟩ := key
 unfold f1088_ParseUint
 dsimp only
 rw [hr]
 rfl
theorem shr_nat (n k : Nat) (hk : k ≤ 64) : bShr .u64 (n : Int) (k : Int) = ((n / 2 ^ k : Nat) : Int) := by
 unfold bShr
 have : min ((k : Int)).toNat IntKind.u64.bits = k := by show min ((k : Int)).toNat 64 = k; omega
 rw [this, Int.fdiv_eq_ediv_of_nonneg _ (by exact_mod_cast Nat.zero_le (2 ^ k))]
 push_cast
 rfl
theorem and_nat (m : Nat) (hm : m < 18446744073709551616) : bAnd .u64 (m : Int) 15 = ((m % 16 : Nat) : Int) := by
 unfold bAnd
 have e : (BitVec.ofInt IntKind.u64.bits (m : Int) &&& BitVec.ofInt IntKind.u64.bits 15).toNat = m % 16 := by
  show (BitVec.ofInt 64 (m : Int) &&& BitVec.ofInt 64 15).toNat = m % 16
  rw [BitVec.toNat_and]
  have h1 : (BitVec.ofInt 64 (m : Int)).toNat = m := by
   rw [BitVec.toNat_ofInt]; omega
  have h2 : (BitVec.ofInt 64 15).toNat = 15 := by decide
  rw [h1, h2]
  exact Nat.and_two_pow_sub_one_eq_mod m 4
 rw [e, wu64]
 omega
theorem val_digit (l : List UInt8) (hm : ∀ u ∈ l, u ∈ BL HX) (i : Nat) (u : UInt8) (hu : l[i]? = some u) : val l 0 / 16 ^ (l.length - 1 - i) % 16 = dg u := by
 have hi := (List.getElem?_eq_some_iff.1 hu).1
 have e : l = l.take i ++ (u :: l.drop (i + 1)) := by
  rw [List.getElem?_eq_getElem hi] at hu
  have := List.drop_eq_getElem_cons hi
  rw [Option.some.inj hu] at this
  rw [← this, List.take_append_drop]
 have hl : (l.drop (i + 1)).length = l.length - 1 - i := by rw [List.length_drop]; omega
 have hd := (dg_lt (hm u (List.mem_of_getElem? hu))).1
 have h1 := val_lt (l.drop (i + 1)) fun x hx => hm x (List.mem_of_mem_drop hx)
 have e2 : val l 0 = (val (l.take i) 0 * 16 + dg u) * 16 ^ (l.length - 1 - i) + val (l.drop (i + 1)) 0 := by
  conv => lhs; rw [e]
  unfold val
  rw [List.foldl_append]
  show val (l.drop (i + 1)) (val (l.take i) 0 * 16 + dg u) = _
  rw [val_add, hl]
  rfl
 rw [hl] at h1
 rw [e2, Nat.mul_comm, Nat.mul_add_div (by exact Nat.pow_pos (by decide)), Nat.div_eq_of_lt h1]
 omega
theorem u_i (N : Nat) (h : N < 18446744073709551616) : wrap .u64 (wrap .i64 (N : Int)) = (N : Int) := by
 rw [wu64, IntKind.wrap_i64]; omega
theorem sh60 (i : Nat) (h : i < 16) : wrap .i64 ((60 : Int) - (wrap .i64 ((4 : Int) * (i : Int)))) = ((4 * (16 - 1 - i) : Nat) : Int) := by
 rw [wrap64 (x := 4 * (i : Int)) (by omega) (by omega), wrap64 (by omega) (by omega)]; omega
theorem float_loop {w : BA} (h : Hx16 w) : ∀ (g i : Nat) (l : LI), g + i = 16 → l.length = 16 → (∀ j u, j < i → (BL w)[j]? = some u → l[j]? = some (u.toNat : Int)) →
 sat (f1104_value_L4 (wrap .i64 ((val (BL w) 0 : Nat) : Int)) g i l) fun o => o = .inr ((BL w).map fun u => (u.toNat : Int))
 | 0, i, l, hg, hl, hp => by
  refine sat_mk (congrArg Sum.inr ?_)
  apply List.ext_getElem?
  intro j
  have hw : (BL w).length = 16 := h.1
  by_cases hj : j < 16
  · rw [List.getElem?_map, List.getElem?_eq_getElem (show j < (BL w).length by omega)]
    exact hp j _ (by omega) (List.getElem?_eq_getElem (by omega))
  · rw [List.getElem?_eq_none (by omega), List.getElem?_eq_none (by rw [List.length_map]; omega)]
 | g + 1, i, l, hg, hl, hp => by
  unfold f1104_value_L4
  have hw : (BL w).length = 16 := h.1
  have hi : i < (BL w).length := by omega
  have hv := val_lt (BL w) h.2
  rw [hw] at hv
  have e16 : (16 : Nat) ^ 16 = 18446744073709551616 := by decide
  rw [e16] at hv
  obtain ⟨u, hu⟩ : ∃ u, (BL w)[i]? = some u := ⟨_, List.getElem?_eq_getElem hi⟩
  have hd := val_digit (BL w) h.2 i u hu
  rw [hw] at hd
  have hi16 : i < 16 := by rw [hw] at hi; exact hi
  have e3 : (2 : Nat) ^ (4 * (16 - 1 - i)) = 16 ^ (16 - 1 - i) := by rw [Nat.pow_mul]
  have hex : bAnd .u64 (bShr .u64 (wrap .u64 (wrap .i64 ((val (BL w) 0 : Nat) : Int))) (wrap .i64 ((60 : Int) - (wrap .i64 ((4 : Int) * (i : Int)))))) 15 = ((dg u : Nat) : Int) := by
   rw [sh60 i hi16, u_i _ hv, shr_nat _ _ (by clear hd; omega), e3, and_nat _ (Nat.lt_of_le_of_lt (Nat.div_le_self _ _) hv), hd]
  have h60 : (0 : Int) ≤ wrap .i64 ((60 : Int) - (wrap .i64 ((4 : Int) * (i : Int)))) := by rw [sh60 i hi16]; exact Int.natCast_nonneg _
  rw [hex]
  have hdu := dg_lt (h.2 u (List.mem_of_getElem? hu))
  clear hd hex e3 hv e16
  have hsz : HX.size = 16 := by decide
  have hdu16 : ((dg u : Nat) : Int) < (HX.size : Int) := by rw [hsz]; omega
  refine i_grdP h60 (i_getB' (s := HX) (Int.natCast_nonneg _) hdu16 fun c hc => i_grdP ⟨by omega, by omega⟩ (i_getN (by omega) fun _ _ _ => ?_))
  have hcu : c = u := by
   have : (BL HX)[dg u]? = some c := by simpa using hc
   rw [hdu.2] at this
   exact (Option.some.inj this).symm
  subst hcu
  have ei : ((i : Int) + 1) = ((i + 1 : Nat) : Int) := by omega
  rw [ei]
  refine float_loop h g (i + 1) _ (by omega) (by rw [List.length_set]; exact hl) fun j x hj hx => ?_
  by_cases hji : j = i
  · subst hji
    rw [hu] at hx
    cases hx
    have : 0 + ((j : Int)).toNat = j := by omega
    rw [this, List.getElem?_set_self (by omega)]
  · have : 0 + ((i : Int)).toNat ≠ j := by omega
    rw [List.getElem?_set_ne this]
    exact hp j x (by omega) hx
theorem nums_back (l : List UInt8) : strOfNums (l.map fun u => (u.toNat : Int)) = ⟨l.toArray⟩ := by
 unfold strOfNums
 rw [List.map_map]
 have : ((fun n : Int => UInt8.ofNat n.toNat) ∘ fun u : UInt8 => (u.toNat : Int)) = id := by
  funext c
  simp
 rw [this, List.map_id]
theorem ba_data (w : BA) : (⟨(BL w).toArray⟩ : BA) = w := ba_eq (by simp [BL])
theorem tw_mem {α : Type} (p : α → Bool) : ∀ (l : List α) {u : α}, u ∈ l.takeWhile p → p u = true
 | [], u, h => by cases h
 | a :: l, u, h => by
  rw [List.takeWhile_cons] at h
  split at h
  · rename_i ha
    rcases List.mem_cons.1 h with rfl | h
    · exact ha
    · exact tw_mem p l h
  · cases h
theorem trim_nil (l cs : List UInt8) (h : Lib.trimS l cs = []) : ∀ u ∈ l, u ∈ cs := by
 have dw : ∀ x : List UInt8, x.dropWhile (cs.contains ·) = [] → ∀ u ∈ x, u ∈ cs := by
  intro x
  induction x with
  | nil => intro _ u hu; cases hu
  | cons a x ih =>
   intro hx u hu
   rw [List.dropWhile_cons] at hx
   split at hx
   · rename_i ha
     rcases List.mem_cons.1 hu with rfl | hu
     · simpa using ha
     · exact ih hx u hu
   · cases hx
 unfold Lib.trimS Lib.trimLeftS at h
 have h1 := dw _ h
 unfold Lib.trimRightS at h1
 intro u hu
 have h2 : u ∈ l.reverse := List.mem_reverse.2 hu
 rw [← List.takeWhile_append_dropWhile (p := (cs.contains ·)) (l := l.reverse)] at h2
 rcases List.mem_append.1 h2 with h3 | h3
 · have := tw_mem _ _ h3; simpa using this
 · exact h1 u (List.mem_reverse.2 h3)
end Go.Clap
