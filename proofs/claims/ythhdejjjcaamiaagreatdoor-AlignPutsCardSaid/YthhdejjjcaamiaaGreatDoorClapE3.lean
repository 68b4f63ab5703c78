/- slices.Delete and slices.Insert: the contracts. -/
import Derived.Test.YthhdejjjcaamiaaGreatDoorClapE2
import Derived.Test.YthhdejjjcaamiaaGreatDoorClapU2
set_option linter.unusedVariables false
set_option linter.unusedSimpArgs false
namespace Go.Clap
open Go Go.Proofs
variable {fid : Nat → FuncId}

theorem val3 {vals : Array Value} (h : vals.size = 3) : ∃ a b c, vals = #[a, b, c] := by
  refine ⟨vals[0]'(by omega), vals[1]'(by omega), vals[2]'(by omega), ?_⟩
  apply Array.ext
  · simpa using h
  · intro k h1 h2
    have : k = 0 ∨ k = 1 ∨ k = 2 := by simp at h2; omega
    rcases this with rfl | rfl | rfl <;> rfl
theorem maxLen_le : maxLen = 9223372036854775807 := rfl
theorem cell_of {w : World} {b : Nat} {arr : Array Value} {t : TypeId} (h : w.heap[b]? = some (.cells arr t (0, 0))) (k : Nat) : w.cell? ⟨b, k, none⟩ = arr[k]? := by
  simp [World.cell?, h]
theorem frozen_of {w : World} {b : Nat} {arr : Array Value} {t : TypeId} (h : w.heap[b]? = some (.cells arr t (0, 0))) (k : Nat) : w.frozen? ⟨b, k, none⟩ = false := by
  simp [World.frozen?, h]

/-- The cells of a slice that nobody writes. -/
theorem isl_cells {w : World} {ok : Nat → Prop} {base : Option Addr} {cap : Nat} {c : Cd} {xs : List (CU c)} (h : ISl SS w ok base cap c xs) (hne : xs ≠ []) :
    ∃ blk off, base = some ⟨blk, off, none⟩ ∧ ok blk ∧ ∃ V : List Value, FR SS w ok c V xs ∧ (∀ (j : Nat) (v : Value), V[j]? = some v → w.cell? ⟨blk, off + j, none⟩ = some v) ∧ ∃ tA kA, w.shape? blk = some (tA, kA) ∧ kA ≠ 0 := by
  obtain ⟨_, _, h⟩ := h
  obtain ⟨blk, off, rfl, hok, hc⟩ := h hne
  have hpos := List.length_pos_iff.2 hne
  have hsz := SS.sz_pos c
  have hrow : ∀ (i : Nat) (hi : i < xs.length) (j : Nat) (hj : j < SS.sz c), ∃ u, w.cell? ⟨blk, off + i * SS.sz c + j, none⟩ = some u := fun i hi j hj => by
    obtain ⟨u, hu, _⟩ := hc i xs[i] j ((SS.row c xs[i])[j]'(by rw [SS.row_len]; exact hj)) (List.getElem?_eq_getElem hi) (List.getElem?_eq_getElem _)
    exact ⟨u, hu⟩
  obtain ⟨u0, hu0⟩ := hrow (xs.length - 1) (by omega) (SS.sz c - 1) (by omega)
  cases hh : w.heap[blk]? with
  | none => simp [World.cell?, hh] at hu0
  | some o => cases o with
    | cells arr t fr =>
      have hcell : ∀ k, w.cell? ⟨blk, k, none⟩ = arr[k]? := fun k => by simp [World.cell?, hh]
      rw [hcell] at hu0
      have hlt := (Array.getElem?_eq_some_iff.1 hu0).1
      have hmul : (xs.length - 1) * SS.sz c + SS.sz c = xs.length * SS.sz c := by
        rw [Nat.sub_mul, Nat.one_mul]
        have : SS.sz c ≤ xs.length * SS.sz c := Nat.le_mul_of_pos_left _ hpos
        omega
      refine ⟨blk, off, rfl, hok, (arr.toList.drop off).take (xs.length * SS.sz c), ⟨?_, fun i x j d hx hd => ?_⟩, fun j v hv => ?_, t, arr.size, by simp [World.shape?, hh], by omega⟩
      · have key : xs.length * SS.sz c + off ≤ arr.size := by omega
        rw [List.length_take, List.length_drop, Array.length_toList]
        exact Nat.min_eq_left (Nat.le_sub_of_add_le key)
      · obtain ⟨u, hu, hr⟩ := hc i x j d hx hd
        rw [hcell, Nat.add_assoc] at hu
        exact ⟨u, by rw [List.getElem?_take, if_pos (lt_mul (List.getElem?_eq_some_iff.1 hx).1 (row_lt hd)), List.getElem?_drop]; simpa using hu, hr⟩
      · rw [hcell]
        rw [List.getElem?_take] at hv
        split at hv
        · rw [List.getElem?_drop] at hv; simpa using hv
        · cases hv
    | _ => simp [World.cell?, hh] at hu0

/-- A call that gives back the slice that it was given. -/
theorem fin_same {c : Cd} {w : World} {ok : Nat → Prop} {ρ : Id → Where} {l : List (CU c)} {v : Value}
    {R : RR} (hm : Mem SS fid w ok ρ (entOf [(.x 0, some (.row false c l))])) (hv : CRel SS fid w ok ρ v (.osl (.x 0) 0 l.length))
    (hR : R (.c (.osl (.x 1) 0 l.length)) [(.x 0, none), (.x 1, some (.row false c l))]) :
    ∃ v' r loc' ok' ρ', Ending.returned v = .returned v' ∧ R r loc' ∧ DRel SS fid w ok' ρ' v' r ∧ Mem SS fid w ok' ρ' (entOf loc') ∧
      (∀ b, ok' b → ok b ∨ w.heap.size ≤ b ∨ ∃ id n s, ρ id = .blk b n s) ∧ (∀ b, ok b → ok' b) ∧
      (∀ id, entOf [(Id.x 0, some (Ent.row (T := TT) false c l))] id ≠ none → ρ' id = ρ id ∨ ρ' id = .dead) ∧
      (∀ id b n s, ρ' id = .blk b n s → w.heap.size ≤ b ∨ ∃ id0 n0 s0, ρ id0 = .blk b n0 s0) ∧
      w.os = w.os ∧ w.tape = w.tape ∧ w.output = w.output ∧ w.heap.size ≤ w.heap.size ∧
      ∀ b, b < w.heap.size → (∀ id n s, ρ id ≠ .blk b n s) → w.heap[b]? = w.heap[b]? := by
  have hent0 : entOf [(Id.x 0, some (Ent.row (T := TT) false c l))] (.x 0) = some (.row false c l) := rfl
  have hent : ∀ id, entOf [(Id.x 0, none), (Id.x 1, some (Ent.row (T := TT) false c l))] id = if id = .x 1 then some (.row false c l) else none := by
    intro id
    by_cases h0 : id = .x 0
    · subst h0; rw [if_neg (by decide)]; rfl
    · have e0 : (id == Id.x 0) = false := by simpa using h0
      by_cases h1 : id = .x 1
      · subst h1; rw [if_pos rfl]; rfl
      · have e1 : (id == Id.x 1) = false := by simpa using h1
        simp only [entOf, List.lookup_cons, List.lookup_nil, e0, e1, if_neg h1, Option.getD_none]
  have hlive := hm.live (.x 0) _ hent0
  refine ⟨_, _, _, ok, fun id => if id = .x 1 then ρ (.x 0) else .dead, rfl, hR, ?_, ⟨?_, ?_, ?_, ?_, hm.okl⟩, fun x hx => .inl hx, fun x hx => hx, ?_, ?_, rfl, rfl, rfl, Nat.le_refl _, fun _ _ _ => rfl⟩
  · show CRel SS fid w ok (fun id => if id = .x 1 then ρ (.x 0) else .dead) v (.osl (.x 1) 0 l.length)
    simp only [CRel, if_true] at hv ⊢
    exact hv
  · intro id e he
    rw [hent] at he
    split at he
    · rename_i hid
      subst hid
      cases he
      rw [if_pos rfl]
      cases hρ : ρ (.x 0) with
      | dead => rw [hρ] at hlive; exact hlive.elim
      | empty => rw [hρ] at hlive; exact hlive
      | blk b n s => rw [hρ] at hlive; exact hlive
    · cases he
  · intro id he
    rw [hent] at he
    split at he
    · cases he
    · rename_i h; rw [if_neg h]
  · intro i j x n s n' s' hi hj
    try dsimp only at hi hj
    split at hi
    · split at hj
      · rename_i h1 h2; rw [h1, h2]
      · cases hj
    · cases hi
  · intro id e x n s he hro hx
    try dsimp only at hx
    split at hx
    · exact hm.excl (.x 0) _ x n s hent0 rfl hx
    · cases hx
  · intro id hid
    by_cases h : id = .x 1
    · subst h
      exact absurd rfl hid
    · exact .inr (if_neg h)
  · intro id x n s h
    try dsimp only at h
    split at h
    · exact .inr ⟨_, _, _, h⟩
    · cases h

theorem take_drop_list {α : Type} (l vs : List α) (i : Nat) (h : i ≤ l.length) : (l.take i ++ vs ++ l.drop i).length = l.length + vs.length := by
  simp only [List.length_append, List.length_take, List.length_drop]; omega

theorem spec_del_part (hf : fid 443 = 122) : C443 (Spec SS Tryz.prog fid) f443 := by
  intro i0 j0 l n en Q R hQ h
  subst en
  obtain ⟨⟨h0, h1, h2⟩, h⟩ := sat_grdP h
  have hq := hQ _ _ rfl (sat_some h)
  obtain ⟨i, rfl⟩ : ∃ i : Nat, i0 = i := ⟨i0.toNat, by omega⟩
  obtain ⟨j, rfl⟩ : ∃ j : Nat, j0 = j := ⟨j0.toNat, by omega⟩
  rw [Int.toNat_natCast, Int.toNat_natCast] at hq
  clear h hQ
  refine ⟨⟨_, hf ▸ Tryz.func122, rfl, rfl⟩, fun w vals ok ρ hs hv hm => ?_⟩
  obtain ⟨v0, v1, v2, rfl⟩ := val3 hs
  have r0 : CRel SS fid w ok ρ v0 (.osl (.x 0) 0 l.length) := hv 0 _ _ rfl rfl
  obtain rfl : v1 = Value.int .i64 i := hv 1 _ _ rfl rfl
  obtain rfl : v2 = Value.int .i64 j := hv 2 _ _ rfl rfl
  have hlive := hm.live (.x 0) (.row false .part l) rfl
  cases hρ : ρ (.x 0) with
  | dead => rw [hρ] at hlive; exact hlive.elim
  | empty =>
    rw [hρ] at hlive
    have : l = [] := hlive
    subst this
    simp at h2
    omega
  | blk b n0 sz =>
    rw [hρ] at hlive
    simp only [CRel, hρ] at r0
    obtain ⟨hz, arr, t, hh, hn, hfit, hcells⟩ := hlive
    obtain rfl : sz = 7 := hz
    obtain ⟨base, cap, rfl, hc1, hc2, hc3⟩ := r0
    obtain ⟨rfl, hc4⟩ := hc3 (by omega)
    rw [Nat.zero_mul, Nat.zero_add] at *
    have hFR : FR SS w ok .part (arr.toList.take (l.length * 7)) l := FR.of_arr (S := SS) (c := .part) (show l.length * 7 ≤ arr.size by omega) hcells
    obtain ⟨F, hF⟩ : ∃ F, F = arr.toList.take (l.length * 7) := ⟨_, rfl⟩
    rw [← hF] at hFR
    have hFl : F.length = l.length * 7 := hFR.1
    have hFa : ∀ (k : Nat) (v : Value), F[k]? = some v → arr[k]? = some v := fun k v h => by
      rw [hF, List.getElem?_take] at h
      split at h
      · simpa using h
      · cases h
    have hcall := Tryz.delete_part b cap i j l.length F w hFl (fun t v h => by rw [cell_of hh]; exact hFa t v h) (fun t _ => frozen_of hh t) (FR.one (S := SS) hFR) (by omega) (by omega) hc1 (by rw [maxLen_le] at hc2; exact hc2)
    rw [hf]
    refine hcall.mono ?_
    rintro e w' ⟨rfl, Z, hZ, rfl⟩
    have hsz2 : (F.drop (j * 7)).length = (l.length - j) * 7 := by rw [List.length_drop, hFl, Nat.sub_mul]
    obtain ⟨a1, g1, g2, g3⟩ := heap_setCells b t (0, 0) (F.drop (j * 7)) (i * 7) w.drew arr hh (by rw [hsz2]; omega)
    obtain ⟨a2, g4, g5, g6⟩ := heap_setCells b t (0, 0) Z ((l.length - (j - i)) * 7) _ a1 g1 (by rw [hZ]; omega)
    obtain ⟨f1, f2, f3, f4, f5⟩ := setCells_frame b (F.drop (j * 7)) (i * 7) w.drew
    obtain ⟨f6, f7, f8, f9, f10⟩ := setCells_frame b Z ((l.length - (j - i)) * 7) (w.drew.setCells b (i * 7) (F.drop (j * 7)))
    have hlen : (l.take i ++ l.drop j).length = l.length - (j - i) := by rw [List.length_append, List.length_take, List.length_drop]; omega
    have fin := fin_row (c := .part) (F := F.take (i * 7) ++ F.drop (j * 7)) (l := l.take i ++ l.drop j) (cap := cap) hm (.inl ⟨_, _, hρ⟩) (.inl rfl) g4 (by omega) hc2 (by rw [g5, g2]; show cap * 7 ≤ arr.size; omega) ?_ (FR.append (S := SS) (FR.take (S := SS) hFR i (by omega)) (FR.drop (S := SS) hFR j))
      (fun x hx hne => (f10 x hne).trans (f5 x hne)) (f6.trans f1) (f7.trans f2) (f8.trans f3) (by rw [f9, f4]; exact Nat.le_refl _) ?_ hq
    · rw [hlen] at fin
      exact fin
    · intro k v hk
      have hkl := (List.getElem?_eq_some_iff.1 hk).1
      rw [List.length_append, List.length_take, hsz2, hFl] at hkl
      rw [g6, if_neg (by omega), g3]
      rw [List.getElem?_append] at hk
      split at hk
      · rename_i hlt
        rw [List.length_take, hFl] at hlt
        rw [if_neg (by omega)]
        rw [List.getElem?_take] at hk
        split at hk
        · exact hFa _ _ hk
        · cases hk
      · rename_i hge
        rw [List.length_take, hFl] at hge hk
        rw [if_pos (by rw [hsz2]; omega)]
        rw [show k - i * 7 = k - min (i * 7) (l.length * 7) by omega]
        exact hk
    · rw [f9, f4]
      exact (Array.getElem?_eq_some_iff.1 hh).1

theorem spec_del_fld (hf : fid 1056 = 92) : C1056 (Spec SS Tryz.prog fid) f1056 := by
  intro i0 j0 l n en Q R hQ h
  subst en
  obtain ⟨⟨h0, h1, h2⟩, h⟩ := sat_grdP h
  have hq := hQ _ _ rfl (sat_some h)
  obtain ⟨i, rfl⟩ : ∃ i : Nat, i0 = i := ⟨i0.toNat, by omega⟩
  obtain ⟨j, rfl⟩ : ∃ j : Nat, j0 = j := ⟨j0.toNat, by omega⟩
  rw [Int.toNat_natCast, Int.toNat_natCast] at hq
  clear h hQ
  refine ⟨⟨_, hf ▸ Tryz.func92, rfl, rfl⟩, fun w vals ok ρ hs hv hm => ?_⟩
  obtain ⟨v0, v1, v2, rfl⟩ := val3 hs
  have r0 : CRel SS fid w ok ρ v0 (.osl (.x 0) 0 l.length) := hv 0 _ _ rfl rfl
  obtain rfl : v1 = Value.int .i64 i := hv 1 _ _ rfl rfl
  obtain rfl : v2 = Value.int .i64 j := hv 2 _ _ rfl rfl
  have hlive := hm.live (.x 0) (.row false .fld l) rfl
  cases hρ : ρ (.x 0) with
  | dead => rw [hρ] at hlive; exact hlive.elim
  | empty =>
    rw [hρ] at hlive
    have : l = [] := hlive
    subst this
    simp at h2
    omega
  | blk b n0 sz =>
    rw [hρ] at hlive
    simp only [CRel, hρ] at r0
    obtain ⟨hz, arr, t, hh, hn, hfit, hcells⟩ := hlive
    obtain rfl : sz = 5 := hz
    obtain ⟨base, cap, rfl, hc1, hc2, hc3⟩ := r0
    obtain ⟨rfl, hc4⟩ := hc3 (by omega)
    rw [Nat.zero_mul, Nat.zero_add] at *
    have hFR : FR SS w ok .fld (arr.toList.take (l.length * 5)) l := FR.of_arr (S := SS) (c := .fld) (show l.length * 5 ≤ arr.size by omega) hcells
    obtain ⟨F, hF⟩ : ∃ F, F = arr.toList.take (l.length * 5) := ⟨_, rfl⟩
    rw [← hF] at hFR
    have hFl : F.length = l.length * 5 := hFR.1
    have hFa : ∀ (k : Nat) (v : Value), F[k]? = some v → arr[k]? = some v := fun k v h => by
      rw [hF, List.getElem?_take] at h
      split at h
      · simpa using h
      · cases h
    have hcall := Tryz.delete_fld b cap i j l.length F w hFl (fun t v h => by rw [cell_of hh]; exact hFa t v h) (fun t _ => frozen_of hh t) (FR.one (S := SS) hFR) (by omega) (by omega) hc1 (by rw [maxLen_le] at hc2; exact hc2)
    rw [hf]
    refine hcall.mono ?_
    rintro e w' ⟨rfl, Z, hZ, rfl⟩
    have hsz2 : (F.drop (j * 5)).length = (l.length - j) * 5 := by rw [List.length_drop, hFl, Nat.sub_mul]
    obtain ⟨a1, g1, g2, g3⟩ := heap_setCells b t (0, 0) (F.drop (j * 5)) (i * 5) w.drew arr hh (by rw [hsz2]; omega)
    obtain ⟨a2, g4, g5, g6⟩ := heap_setCells b t (0, 0) Z ((l.length - (j - i)) * 5) _ a1 g1 (by rw [hZ]; omega)
    obtain ⟨f1, f2, f3, f4, f5⟩ := setCells_frame b (F.drop (j * 5)) (i * 5) w.drew
    obtain ⟨f6, f7, f8, f9, f10⟩ := setCells_frame b Z ((l.length - (j - i)) * 5) (w.drew.setCells b (i * 5) (F.drop (j * 5)))
    have hlen : (l.take i ++ l.drop j).length = l.length - (j - i) := by rw [List.length_append, List.length_take, List.length_drop]; omega
    have fin := fin_row (c := .fld) (F := F.take (i * 5) ++ F.drop (j * 5)) (l := l.take i ++ l.drop j) (cap := cap) hm (.inl ⟨_, _, hρ⟩) (.inl rfl) g4 (by omega) hc2 (by rw [g5, g2]; show cap * 5 ≤ arr.size; omega) ?_ (FR.append (S := SS) (FR.take (S := SS) hFR i (by omega)) (FR.drop (S := SS) hFR j))
      (fun x hx hne => (f10 x hne).trans (f5 x hne)) (f6.trans f1) (f7.trans f2) (f8.trans f3) (by rw [f9, f4]; exact Nat.le_refl _) ?_ hq
    · rw [hlen] at fin
      exact fin
    · intro k v hk
      have hkl := (List.getElem?_eq_some_iff.1 hk).1
      rw [List.length_append, List.length_take, hsz2, hFl] at hkl
      rw [g6, if_neg (by omega), g3]
      rw [List.getElem?_append] at hk
      split at hk
      · rename_i hlt
        rw [List.length_take, hFl] at hlt
        rw [if_neg (by omega)]
        rw [List.getElem?_take] at hk
        split at hk
        · exact hFa _ _ hk
        · cases hk
      · rename_i hge
        rw [List.length_take, hFl] at hge hk
        rw [if_pos (by rw [hsz2]; omega)]
        rw [show k - i * 5 = k - min (i * 5) (l.length * 5) by omega]
        exact hk
    · rw [f9, f4]
      exact (Array.getElem?_eq_some_iff.1 hh).1

/-- What a block holds that was made of cells, one behind the other. -/
theorem app_get5 {F V : List Value} {n m i : Nat} (hF : F.length = n * 5) (hV : V.length = m * 5) (hi : i ≤ n) {k : Nat} {v : Value} (h : (F.take (i * 5) ++ V ++ F.drop (i * 5))[k]? = some v) :
    (k < i * 5 ∧ F[k]? = some v) ∨ (i * 5 ≤ k ∧ k < (i + m) * 5 ∧ V[k - i * 5]? = some v) ∨ ((i + m) * 5 ≤ k ∧ k < (n + m) * 5 ∧ (F.drop (i * 5))[k - (i + m) * 5]? = some v) := by
  have hkl := (List.getElem?_eq_some_iff.1 h).1
  rw [List.length_append, List.length_append, List.length_take, List.length_drop, hF, hV] at hkl
  rw [List.append_assoc, List.getElem?_append] at h
  split at h
  · rename_i hlt
    rw [List.length_take, hF] at hlt
    rw [List.getElem?_take] at h
    split at h
    · exact .inl ⟨by omega, h⟩
    · cases h
  · rename_i hge
    rw [List.length_take, hF] at hge h
    rw [List.getElem?_append] at h
    split at h
    · rename_i hlt
      rw [hV] at hlt
      rw [show min (i * 5) (n * 5) = i * 5 by omega] at h
      exact .inr (.inl ⟨by omega, by omega, h⟩)
    · rename_i hge2
      rw [hV] at hge2 h
      rw [show k - min (i * 5) (n * 5) - m * 5 = k - (i + m) * 5 by omega] at h
      exact .inr (.inr ⟨by omega, by omega, h⟩)

set_option maxHeartbeats 1000000 in
theorem spec_ins_fld (hf : fid 1066 = 93) : C1066 (Spec SS Tryz.prog fid) f1066 := by
  intro i0 vs l n en Q R hQ h
  subst en
  obtain ⟨⟨h0, h1, hbig⟩, h⟩ := sat_grdP h
  have hq := hQ _ _ rfl (sat_some h)
  obtain ⟨i, rfl⟩ : ∃ i : Nat, i0 = i := ⟨i0.toNat, by omega⟩
  rw [Int.toNat_natCast] at hq
  clear h hQ
  have hi : i ≤ l.length := by omega
  refine ⟨⟨_, hf ▸ Tryz.func93, rfl, rfl⟩, fun w vals ok ρ hs hv hm => ?_⟩
  obtain ⟨v0, v1, v2, rfl⟩ := val3 hs
  have r0 : CRel SS fid w ok ρ v0 (.osl (.x 0) 0 l.length) := hv 0 _ _ rfl rfl
  obtain rfl : v1 = Value.int .i64 i := hv 1 _ _ rfl rfl
  have r2 : IRel SS w ok v2 (.isl .fld vs) := hv 2 _ _ rfl rfl
  obtain ⟨vbase, vc, rfl, hisl⟩ := r2.isl_inv
  have hlive := hm.live (.x 0) (.row false .fld l) rfl
  rw [hf]
  have hlen := take_drop_list l vs i hi
  by_cases hne : vs = []
  · subst hne
    rw [List.append_nil, List.take_append_drop] at hq
    obtain ⟨base, cap, rfl, hcap, hmax⟩ : ∃ base cap, v0 = .slice base l.length cap ∧ l.length ≤ cap ∧ cap ≤ maxLen := by
      simp only [CRel] at r0
      cases hρ : ρ (.x 0) with
      | dead => rw [hρ] at hlive; exact hlive.elim
      | empty => rw [hρ] at r0; obtain ⟨_, h, rfl⟩ := r0; exact ⟨_, 0, by rw [h], by omega, by rw [maxLen_le]; omega⟩
      | blk b n0 sz => rw [hρ] at r0; obtain ⟨base, cap, rfl, hc1, hc2, _⟩ := r0; exact ⟨_, _, rfl, hc1, hc2⟩
    refine (Tryz.insert_fld_none base vbase l.length cap i vc w hi hcap (by rw [maxLen_le] at hmax; exact hmax)).mono ?_
    rintro e w' ⟨rfl, rfl⟩
    exact fin_same hm r0 hq
  have hm0 : 0 < vs.length := List.length_pos_iff.2 hne
  obtain ⟨vb, voff, rfl, hvok, V, hVR, hVc, tA, kA, hsa, hkA⟩ := isl_cells hisl hne
  have hVl : V.length = vs.length * 5 := hVR.1
  have hV1 := FR.one (S := SS) hVR
  have hvw := hm.okl vb hvok
  have hzl : ∀ q, (Builtin.zeroCells zField q).size = q * 5 := fun q => by simp [Builtin.zeroCells, zField]
  -- a new row at the end
  have endgrow : ∀ (b0 : Nat) (base : Option Addr) (cap : Nat) (F : List Value), v0 = .slice base l.length cap → i = l.length → l.length ≤ cap → cap < l.length + vs.length → FR SS w ok .fld F l → (base = none → l.length = 0) →
      (∀ a, base = some a → ∀ (j : Nat) (v : Value), F[j]? = some v → w.cell? (a.add j) = some v) → ((∃ n s, ρ (.x 0) = .blk b0 n s) ∨ w.heap.size ≤ b0) →
      Calls Tryz.prog 93 #[v0, .int .i64 i, .slice (some ⟨vb, voff, none⟩) vs.length vc] w fun e w' => ∃ v r loc' ok' ρ', e = .returned v ∧ R r loc' ∧ DRel SS fid w' ok' ρ' v r ∧ Mem SS fid w' ok' ρ' (entOf loc') ∧
        (∀ b, ok' b → ok b ∨ w.heap.size ≤ b ∨ ∃ id n s, ρ id = .blk b n s) ∧ (∀ b, ok b → ok' b) ∧
        (∀ id, entOf [(Id.x 0, some (Ent.row (T := TT) false .fld l))] id ≠ none → ρ' id = ρ id ∨ ρ' id = .dead) ∧
        (∀ id b n s, ρ' id = .blk b n s → w.heap.size ≤ b ∨ ∃ id0 n0 s0, ρ id0 = .blk b n0 s0) ∧
        w'.os = w.os ∧ w'.tape = w.tape ∧ w'.output = w.output ∧ w.heap.size ≤ w'.heap.size ∧ ∀ b, b < w.heap.size → (∀ id n s, ρ id ≠ .blk b n s) → w'.heap[b]? = w.heap[b]? := by
    intro b0 base cap F e0 ei hcap hroom hFR hnil hFc hb
    subst e0
    subst ei
    have hFl : F.length = l.length * 5 := hFR.1
    refine (Tryz.insert_fld_end_grow base l.length cap vb voff vs.length vc F V w hm0 hcap hroom hbig hFl hVl hnil hFc hVc hV1).mono ?_
    rintro e w' ⟨rfl, rfl⟩
    have hG := grownCap_ge w (l.length + vs.length) cap 51
    have hG2 := grownCap_le_maxLen w (l.length + vs.length) cap 51 (by rw [maxLen_le]; omega)
    have hrow : (w.drew.alloc (.cells ((F ++ V).toArray ++ Builtin.zeroCells zField (grownCap w (l.length + vs.length) cap 51 - (l.length + vs.length))) 51)).heap[w.heap.size]? = some (.cells ((F ++ V).toArray ++ Builtin.zeroCells zField (grownCap w (l.length + vs.length) cap 51 - (l.length + vs.length))) 51 (0, 0)) := by
      show (w.drew.heap.push _)[w.drew.heap.size]? = _
      exact Array.getElem?_push_size
    have hFR2 : FR SS w ok .fld (F ++ V) (l.take l.length ++ vs ++ l.drop l.length) := by
      rw [List.take_length, List.drop_length, List.append_nil]
      exact FR.append (S := SS) hFR hVR
    have fin := fin_row (c := .fld) (b := b0) (b' := w.heap.size) (F := F ++ V) hm hb (.inr (Nat.le_refl _)) hrow (by rw [hlen]; exact hG) hG2 ?_ (fun k v hk => ?_) hFR2 (fun x hx hne => ?_) rfl rfl rfl (by simp [World.alloc]) (by simp [World.alloc]) hq
    · rw [hlen] at fin; exact fin
    · rw [Array.size_append, hzl, List.size_toArray, List.length_append, hFl, hVl]
      show _ * 5 ≤ _
      omega
    · rw [Array.getElem?_append_left (by simpa using (List.getElem?_eq_some_iff.1 hk).1)]
      simpa using hk
    · show (w.heap.push _)[x]? = _
      rw [Array.getElem?_push, if_neg (by omega)]
  simp only [CRel] at r0
  cases hρ : ρ (.x 0) with
  | dead => rw [hρ] at hlive; exact hlive.elim
  | empty =>
    rw [hρ] at hlive r0
    have : l = [] := hlive
    subst this
    obtain ⟨_, _, rfl⟩ := r0
    obtain rfl : i = 0 := by simpa using hi
    exact endgrow w.heap.size none 0 [] rfl rfl (Nat.le_refl _) (by simpa using hm0) ⟨rfl, fun i x j d hx => by simp at hx⟩ (fun _ => rfl) (fun a ha => by cases ha) (.inr (Nat.le_refl _))
  | blk b n0 sz =>
    rw [hρ] at hlive r0
    obtain ⟨hz, arr, t, hh, hn, hfit, hcells⟩ := hlive
    obtain rfl : sz = 5 := hz
    obtain ⟨base, cap, rfl, hc1, hc2, hc3⟩ := r0
    have hFR : FR SS w ok .fld (arr.toList.take (l.length * 5)) l := FR.of_arr (S := SS) (c := .fld) (show l.length * 5 ≤ arr.size by omega) hcells
    obtain ⟨F, hF⟩ : ∃ F, F = arr.toList.take (l.length * 5) := ⟨_, rfl⟩
    rw [← hF] at hFR
    have hFl : F.length = l.length * 5 := hFR.1
    have hF1 := FR.one (S := SS) hFR
    have hFa : ∀ (k : Nat) (v : Value), F[k]? = some v → arr[k]? = some v := fun k v h => by
      rw [hF, List.getElem?_take] at h
      split at h
      · simpa using h
      · cases h
    have hFc : ∀ (k : Nat) (v : Value), F[k]? = some v → w.cell? ⟨b, k, none⟩ = some v := fun k v h => by rw [cell_of hh]; exact hFa k v h
    have hcm : cap ≤ 9223372036854775807 := by rw [maxLen_le] at hc2; exact hc2
    by_cases hcap0 : cap = 0
    · subst hcap0
      have hl0 : l.length = 0 := by omega
      refine endgrow b base 0 F rfl (by omega) (by omega) (by omega) hFR (fun _ => hl0) (fun a _ k v hk => ?_) (.inl ⟨_, _, hρ⟩)
      have := (List.getElem?_eq_some_iff.1 hk).1
      omega
    obtain ⟨rfl, hc4⟩ := hc3 (by omega)
    rw [Nat.zero_mul, Nat.zero_add] at *
    have hvb : vb ≠ b := by
      rintro rfl
      exact hm.excl (.x 0) _ vb n0 5 rfl rfl hρ hvok
    have hsb : w.shape? b = some (t, arr.size) := by simp [World.shape?, hh]
    by_cases hroom : l.length + vs.length ≤ cap
    · have hfit2 : (l.length + vs.length) * 5 ≤ arr.size := by omega
      have hsp : ∀ j, j < (l.length + vs.length) * 5 → (w.cell? ⟨b, j, none⟩).isSome = true := fun j hj => by
        rw [cell_of hh, Array.getElem?_eq_getElem (by omega)]; rfl
      by_cases hend : i = l.length
      · subst hend
        refine (Tryz.insert_fld_end_room b l.length cap vb voff vs.length vc V w hm0 hroom hcm hVl hsp (frozen_of hh) hVc hV1).mono ?_
        rintro e w' ⟨rfl, rfl⟩
        obtain ⟨a1, g1, g2, g3⟩ := heap_setCells b t (0, 0) V (l.length * 5) w arr hh (by omega)
        obtain ⟨f1, f2, f3, f4, f5⟩ := setCells_frame b V (l.length * 5) w
        have hFR2 : FR SS w ok .fld (F ++ V) (l.take l.length ++ vs ++ l.drop l.length) := by
          rw [List.take_length, List.drop_length, List.append_nil]
          exact FR.append (S := SS) hFR hVR
        have fin := fin_row (c := .fld) (F := F ++ V) (cap := cap) hm (.inl ⟨_, _, hρ⟩) (.inl rfl) g1 (by omega) hc2 (by rw [g2]; show cap * 5 ≤ arr.size; omega) ?_ hFR2
          (fun x hx hne => f5 x hne) f1 f2 f3 (by rw [f4]; exact Nat.le_refl _) (by rw [f4]; exact (Array.getElem?_eq_some_iff.1 hh).1) hq
        · rw [hlen] at fin; exact fin
        · intro k v hk
          have hkl := (List.getElem?_eq_some_iff.1 hk).1
          rw [List.length_append, hFl, hVl] at hkl
          rw [g3]
          rw [List.getElem?_append] at hk
          split at hk
          · rw [if_neg (by omega)]; exact hFa _ _ hk
          · rw [if_pos (by omega)]; rw [hFl] at hk; exact hk
      · refine (Tryz.insert_fld_shift b l.length cap i vb voff vs.length vc F V w (by omega) hm0 hroom hcm hvb hFl hVl hFc hsp (frozen_of hh) hVc hF1 hV1 tA t kA arr.size hsa hsb (by omega) hkA).mono ?_
        rintro e w' ⟨rfl, rfl⟩
        have hdl := mul5_drop (i := i) hFl
        obtain ⟨a1, g1, g2, g3⟩ := heap_setCells b t (0, 0) (F.drop (i * 5)) ((i + vs.length) * 5) w.drew arr hh (by rw [hdl]; omega)
        obtain ⟨a2, g4, g5, g6⟩ := heap_setCells b t (0, 0) V (i * 5) _ a1 g1 (by omega)
        obtain ⟨f1, f2, f3, f4, f5⟩ := setCells_frame b (F.drop (i * 5)) ((i + vs.length) * 5) w.drew
        obtain ⟨f6, f7, f8, f9, f10⟩ := setCells_frame b V (i * 5) (w.drew.setCells b ((i + vs.length) * 5) (F.drop (i * 5)))
        have hFR2 : FR SS w ok .fld (F.take (i * 5) ++ V ++ F.drop (i * 5)) (l.take i ++ vs ++ l.drop i) := FR.append (S := SS) (FR.append (S := SS) (FR.take (S := SS) hFR i hi) hVR) (FR.drop (S := SS) hFR i)
        have fin := fin_row (c := .fld) (F := F.take (i * 5) ++ V ++ F.drop (i * 5)) (cap := cap) hm (.inl ⟨_, _, hρ⟩) (.inl rfl) g4 (by omega) hc2 (by rw [g5, g2]; show cap * 5 ≤ arr.size; omega) ?_ hFR2
          (fun x hx hne => (f10 x hne).trans (f5 x hne)) (f6.trans f1) (f7.trans f2) (f8.trans f3) (by rw [f9, f4]; exact Nat.le_refl _) (by rw [f9, f4]; exact (Array.getElem?_eq_some_iff.1 hh).1) hq
        · rw [hlen] at fin; exact fin
        · intro k v hk
          rw [g6, g3]
          rcases app_get5 hFl hVl hi hk with ⟨h1, h2⟩ | ⟨h1, h2, h3⟩ | ⟨h1, h2, h3⟩
          · rw [if_neg (by omega), if_neg (by omega)]; exact hFa _ _ h2
          · rw [if_pos (by omega)]; exact h3
          · rw [if_neg (by omega), if_pos (by rw [hdl]; omega)]; exact h3
    · by_cases hend : i = l.length
      · exact endgrow b (some ⟨b, 0, none⟩) cap F rfl hend hc1 (by omega) hFR (fun h => by cases h) (fun a ha k v hk => by cases ha; rw [Addr.add_lit, Nat.zero_add]; exact hFc k v hk) (.inl ⟨_, _, hρ⟩)
      · refine (Tryz.insert_fld_grow b l.length cap i vb voff vs.length vc F V w (by omega) hm0 hc1 (by omega) hbig hFl hVl hFc hVc hF1 hV1).mono ?_
        rintro e w' ⟨rfl, rfl⟩
        have hdl := mul5_drop (i := i) hFl
        have hG := grownCap_ge w (l.length + vs.length) cap 51
        have hG2 := grownCap_le_maxLen w (l.length + vs.length) cap 51 (by rw [maxLen_le]; omega)
        generalize grownCap w (l.length + vs.length) cap 51 = G at *
        obtain ⟨ROW, hROW⟩ : ∃ ROW : Array Value, ROW = (F.take (i * 5)).toArray ++ Builtin.zeroCells zField (l.length + vs.length - i) ++ Builtin.zeroCells zField (G - (l.length + vs.length)) := ⟨_, rfl⟩
        rw [← hROW]
        have hRs : ROW.size = G * 5 := by
          rw [hROW, Array.size_append, Array.size_append, hzl, hzl, List.size_toArray, List.length_take, hFl]
          omega
        have hRg : ∀ (k : Nat) (v : Value), k < i * 5 → F[k]? = some v → ROW[k]? = some v := fun k v hk h => by
          rw [hROW, Array.getElem?_append_left (by rw [Array.size_append, List.size_toArray, List.length_take, hFl]; omega), Array.getElem?_append_left (by rw [List.size_toArray, List.length_take, hFl]; omega)]
          simp only [List.getElem?_toArray, List.getElem?_take, if_pos hk]
          exact h
        have hrow : (w.alloc (.cells ROW 51)).drew.heap[w.heap.size]? = some (.cells ROW 51 (0, 0)) := by
          show (w.heap.push _)[w.heap.size]? = _
          exact Array.getElem?_push_size
        obtain ⟨a1, g1, g2, g3⟩ := heap_setCells w.heap.size 51 (0, 0) V (i * 5) (w.alloc (.cells ROW 51)).drew ROW hrow (by omega)
        obtain ⟨a2, g4, g5, g6⟩ := heap_setCells w.heap.size 51 (0, 0) (F.drop (i * 5)) ((i + vs.length) * 5) (((w.alloc (.cells ROW 51)).drew.setCells w.heap.size (i * 5) V).drew) a1 g1 (by rw [hdl]; omega)
        obtain ⟨f1, f2, f3, f4, f5⟩ := setCells_frame w.heap.size V (i * 5) (w.alloc (.cells ROW 51)).drew
        obtain ⟨f6, f7, f8, f9, f10⟩ := setCells_frame w.heap.size (F.drop (i * 5)) ((i + vs.length) * 5) (((w.alloc (.cells ROW 51)).drew.setCells w.heap.size (i * 5) V).drew)
        have f9' : (((w.alloc (.cells ROW 51)).drew.setCells w.heap.size (i * 5) V).drew.setCells w.heap.size ((i + vs.length) * 5) (F.drop (i * 5))).heap.size = w.heap.size + 1 := f9.trans (f4.trans (Array.size_push _))
        have hFR2 : FR SS w ok .fld (F.take (i * 5) ++ V ++ F.drop (i * 5)) (l.take i ++ vs ++ l.drop i) := FR.append (S := SS) (FR.append (S := SS) (FR.take (S := SS) hFR i hi) hVR) (FR.drop (S := SS) hFR i)
        have fin := fin_row (c := .fld) (b := b) (b' := w.heap.size) (F := F.take (i * 5) ++ V ++ F.drop (i * 5)) (cap := G) hm (.inl ⟨_, _, hρ⟩) (.inr (Nat.le_refl _)) g4 (by omega) hG2 (by rw [g5, g2, hRs]; exact Nat.le_refl _) ?_ hFR2
          (fun x hx hne => (f10 x (by omega)).trans ((f5 x (by omega)).trans (by show (w.heap.push _)[x]? = _; rw [Array.getElem?_push, if_neg (by omega)]))) (f6.trans f1) (f7.trans f2) (f8.trans f3) (by rw [f9']; omega) (by rw [f9']; omega) hq
        · rw [hlen] at fin; exact fin
        · intro k v hk
          rw [g6, g3]
          rcases app_get5 hFl hVl hi hk with ⟨h1, h2⟩ | ⟨h1, h2, h3⟩ | ⟨h1, h2, h3⟩
          · rw [if_neg (by omega), if_neg (by omega)]; exact hRg _ _ h1 h2
          · rw [if_neg (by omega), if_pos (by omega)]; exact h3
          · rw [if_pos (by rw [hdl]; omega)]; exact h3
end Go.Clap
