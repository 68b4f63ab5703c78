/- The checks of the small code against the loaded functions. -/
import Derived.Test.YtnielhfaioakkaaGreatClapD4
import Derived.Shelf.Sort.Plain
import Derived.Shelf.Slices.In.SortNone
set_option linter.unusedVariables false
set_option linter.unusedSimpArgs false
namespace Go.Proofs
open Go.Shelf
def Tryz.lays190_ren : Ren := ⟨fun x => match x with | 190 => 149 | 125 => 70 | 258 => 161 | 128 => 95 | 129 => 96 | 302 => 169 | 303 => 170 | 304 => 171 | 305 => 172 | 306 => 173 | 307 => 174 | 308 => 175 | 309 => 176 | 310 => 177 | 333 => 182 | 329 => 117 | 330 => 118 | 334 => 183 | 335 => 184 | 336 => 185 | 344 => 192 | n => n, fun x => match x with | 31 => 48 | 46 => 115 | 51 => 144 | 53 => 146 | 183 => 137 | 182 => 136 | 131 => 141 | 218 => 174 | 222 => 178 | 228 => 197 | 229 => 125 | n => n, fun x => x⟩
theorem Tryz.lays190 : Lays.n190 Tryz.prog Tryz.lays190_ren where
 mixed := by kernel_rfl
 f125 := by kernel_rfl
 f128 := by kernel_rfl
 f129 := by kernel_rfl
 f190 := by kernel_rfl
 f258 := by kernel_rfl
 f302 := by kernel_rfl
 f303 := by kernel_rfl
 f304 := by kernel_rfl
 f305 := by kernel_rfl
 f306 := by kernel_rfl
 f307 := by kernel_rfl
 f308 := by kernel_rfl
 f309 := by kernel_rfl
 f310 := by kernel_rfl
 f329 := by kernel_rfl
 f330 := by kernel_rfl
 f333 := by kernel_rfl
 f334 := by kernel_rfl
 f335 := by kernel_rfl
 f336 := by kernel_rfl
 f344 := by kernel_rfl
 t0 := by kernel_rfl
 a0 := fun w => by kernel_rfl
 z0 := fun w => by kernel_rfl
 v0 := fun w => by kernel_rfl
 t3 := by kernel_rfl
 a3 := fun w => by kernel_rfl
 z3 := fun w => by kernel_rfl
 v3 := fun w => by kernel_rfl
 t4 := by kernel_rfl
 a4 := fun w => by kernel_rfl
 z4 := fun w => by kernel_rfl
 v4 := fun w => by kernel_rfl
 t5 := by kernel_rfl
 a5 := fun w => by kernel_rfl
 z5 := fun w => by kernel_rfl
 v5 := fun w => by kernel_rfl
 t9 := by kernel_rfl
 a9 := fun w => by kernel_rfl
 z9 := fun w => by kernel_rfl
 v9 := fun w => by kernel_rfl
 t31 := by kernel_rfl
 a31 := fun w => by kernel_rfl
 z31 := fun w => by kernel_rfl
 v31 := fun w => by kernel_rfl
 t46 := by kernel_rfl
 a46 := fun w => by kernel_rfl
 z46 := fun w => by kernel_rfl
 v46 := fun w => by kernel_rfl
 t51 := by kernel_rfl
 a51 := fun w => by kernel_rfl
 z51 := fun w => by kernel_rfl
 v51 := fun w => by kernel_rfl
 t53 := by kernel_rfl
 a53 := fun w => by kernel_rfl
 z53 := fun w => by kernel_rfl
 v53 := fun w => by kernel_rfl
 t131 := by kernel_rfl
 a131 := fun w => by kernel_rfl
 z131 := fun w => by kernel_rfl
 v131 := fun w => by kernel_rfl
 t182 := by kernel_rfl
 a182 := fun w => by kernel_rfl
 z182 := fun w => by kernel_rfl
 v182 := fun w => by kernel_rfl
 t183 := by kernel_rfl
 a183 := fun w => by kernel_rfl
 z183 := fun w => by kernel_rfl
 v183 := fun w => by kernel_rfl
 t218 := by kernel_rfl
 a218 := fun w => by kernel_rfl
 z218 := fun w => by kernel_rfl
 v218 := fun w => by kernel_rfl
 t222 := by kernel_rfl
 a222 := fun w => by kernel_rfl
 z222 := fun w => by kernel_rfl
 v222 := fun w => by kernel_rfl
 t228 := by kernel_rfl
 a228 := fun w => by kernel_rfl
 z228 := fun w => by kernel_rfl
 v228 := fun w => by kernel_rfl
 t229 := by kernel_rfl
 a229 := fun w => by kernel_rfl
 z229 := fun w => by kernel_rfl
 v229 := fun w => by kernel_rfl
end Go.Proofs
namespace Go.Clap
open Go Go.Proofs
variable {fid : Nat → FuncId}
theorem val1 {vals : Array Value} (h : vals.size = 1) : ∃ a, vals = #[a] := by
 refine ⟨vals[0]'(by omega), ?_⟩
 apply Array.ext
 · simpa using h
 · intro k h1 h2
   obtain rfl : k = 0 := by simp at h2; omega
   rfl
theorem fin_id {w : World} {ok : Nat → Prop} {ρ : Id → Where} {loc : List (Id × Option (Ent TT))} {R : RR} (hm : Mem SS fid w ok ρ (entOf loc)) (hR : R (.tup []) loc) :
 ∃ v r loc' ok' ρ', Ending.returned (.tuple #[]) = .returned v ∧ R r loc' ∧ DRel SS fid w ok' ρ' v r ∧ Mem SS fid w ok' ρ' (entOf loc') ∧
  (∀ b, ok' b → ok b ∨ w.heap.size ≤ b ∨ ∃ id n s, ρ id = .blk b n s) ∧ (∀ b, ok b → ok' b) ∧
  (∀ id, entOf loc id ≠ none → ρ' id = ρ id ∨ ρ' id = .dead) ∧
  (∀ id b n s, ρ' id = .blk b n s → w.heap.size ≤ b ∨ ∃ id0 n0 s0, ρ id0 = .blk b n0 s0) ∧
  w.os = w.os ∧ w.tape = w.tape ∧ w.output = w.output ∧ w.heap.size ≤ w.heap.size ∧
  ∀ b, b < w.heap.size → (∀ id n s, ρ id ≠ .blk b n s) → w.heap[b]? = w.heap[b]? :=
 ⟨_, _, _, ok, ρ, rfl, hR, ⟨#[], rfl, rfl, fun i u d h => by simp at h⟩, hm, fun b h => .inl h, fun b h => h, fun id _ => .inl rfl, fun id b n s h => .inr ⟨_, _, _, h⟩, rfl, rfl, rfl, Nat.le_refl _, fun _ _ _ => rfl⟩
theorem d_sortBA_len (l : LB) : (sortBA l).length = l.length := by simp [sortBA, List.length_mergeSort]
theorem spec_sort (hf : fid 449 = 149) : C449 (Spec SS Tryz.prog fid) f449 := by
 intro l n en Q R hQ h
 subst en
 obtain ⟨hlen, h⟩ := sat_grdP h
 have hq := hQ (sortBA l) (d_sortBA_len l) (sat_some h)
 clear h hQ
 refine ⟨⟨_, hf ▸ Tryz.func149, rfl, rfl⟩, fun w vals ok ρ hs hv hm => ?_⟩
 obtain ⟨v0, rfl⟩ := val1 hs
 have r0 : CRel SS fid w ok ρ v0 (.osl (.x 0) 0 l.length) := hv 0 _ _ rfl rfl
 have hlive := hm.live (.x 0) (.row false .str l) rfl
 have hnil : ∀ (p : Option Addr) (cap : Nat), l = [] → v0 = .slice p 0 cap → Calls Tryz.prog (fid 449) #[v0] w fun e w' => ∃ v r loc' ok' ρ', e = .returned v ∧ R r loc' ∧ DRel SS fid w' ok' ρ' v r ∧ Mem SS fid w' ok' ρ' (entOf loc') ∧
  (∀ b, ok' b → ok b ∨ w.heap.size ≤ b ∨ ∃ id n s, ρ id = .blk b n s) ∧ (∀ b, ok b → ok' b) ∧
  (∀ id, entOf [(Id.x 0, some (Ent.row (T := TT) false Cd.str l))] id ≠ none → ρ' id = ρ id ∨ ρ' id = .dead) ∧
  (∀ id b n s, ρ' id = .blk b n s → w.heap.size ≤ b ∨ ∃ id0 n0 s0, ρ id0 = .blk b n0 s0) ∧
  w'.os = w.os ∧ w'.tape = w.tape ∧ w'.output = w.output ∧ w.heap.size ≤ w'.heap.size ∧
  ∀ b, b < w.heap.size → (∀ id n s, ρ id ≠ .blk b n s) → w'.heap[b]? = w.heap[b]? := by
  rintro p cap rfl rfl
  rw [hf]
  refine (Any.slices_Sort_string_none Tryz.lays190 p cap w).mono ?_
  rintro e w' ⟨rfl, rfl⟩
  have e0 : sortBA [] = [] := by simp [sortBA]
  rw [e0] at hq
  exact fin_id hm hq
 by_cases hl : l = []
 · subst hl
   cases hρ : ρ (.x 0) with
   | dead => rw [hρ] at hlive; exact hlive.elim
   | empty =>
    simp only [CRel, hρ] at r0
    exact hnil _ _ rfl r0.2.2
   | blk b n0 sz =>
    simp only [CRel, hρ] at r0
    obtain ⟨base, cap, rfl, _⟩ := r0
    exact hnil _ _ rfl rfl
 clear hnil
 cases hρ : ρ (.x 0) with
 | dead => rw [hρ] at hlive; exact hlive.elim
 | empty => rw [hρ] at hlive; exact absurd hlive hl
 | blk b n0 sz =>
  rw [hρ] at hlive
  simp only [CRel, hρ] at r0
  obtain ⟨hz, arr, t, hh, hn, hfit, hcells⟩ := hlive
  obtain rfl : sz = 1 := hz
  obtain ⟨base, cap, rfl, hc1, hc2, hc3⟩ := r0
  have hpos := List.length_pos_iff.2 hl
  obtain ⟨rfl, hc4⟩ := hc3 (by omega)
  rw [Nat.zero_mul] at *
  have hcell : ∀ j (hj : j < l.length), arr[j]? = some (.string l[j]) := fun j hj => by
   obtain ⟨u, hu, hr⟩ := hcells j l[j] 0 (.str l[j]) (List.getElem?_eq_getElem hj) rfl
   rw [hr.str_inv] at hu
   simpa using hu
  obtain ⟨ss, hss⟩ : ∃ ss, ss = l.map fun x => x.data.toList := ⟨_, rfl⟩
  have hsl : ss.length = l.length := by rw [hss, List.length_map]
  obtain ⟨d, hd⟩ : ∃ d, d = (ss.mergeSort fun x y => decide (x ≤ y)).toArray := ⟨_, rfl⟩
  have hdl : d.size = l.length := by rw [hd]; simp [List.length_mergeSort, hsl]
  have hdm : ∀ (i : Nat) (x : ByteArray), (sortBA l)[i]? = some x → i < d.size ∧ Go.Proofs.encStr d[i]! = .string x := fun i x hx => by
   unfold sortBA at hx
   rw [← hss, List.getElem?_map] at hx
   cases hy : (ss.mergeSort fun x y => decide (x ≤ y))[i]? with
   | none => rw [hy] at hx; cases hx
   | some y =>
    rw [hy] at hx
    cases hx
    have hi := (List.getElem?_eq_some_iff.1 hy)
    obtain ⟨hi1, hi2⟩ := hi
    refine ⟨by rw [hd]; simpa using hi1, ?_⟩
    have : d[i]! = y := by
     rw [hd, getElem!_pos _ i (by simpa using hi1)]
     simpa using hi2
    rw [this]
  have hbs : b < w.heap.size := (Array.getElem?_eq_some_iff.1 hh).1
  have hcall := Any.slices_Sort_string Tryz.lays190 b 0 cap ss w (fun j hj => by
   have hj : j < ss.length := by simpa using hj
   rw [Nat.zero_add]
   refine ⟨?_, frozen_of hh j⟩
   rw [cell_of hh, hcell j (by omega), getElem!_pos _ j (by simpa using hj)]
   simp [Go.Proofs.encStr, hss]) hbs (by omega)
  rw [hf]
  rw [hsl] at hcall
  refine hcall.mono ?_
  rintro e w' ⟨rfl, n, os, rfl⟩
  rw [← hd]
  have hheap : ∀ x, x < w.heap.size → (Go.Sort.grow (Go.Sort.putRow Go.Proofs.encStr (Go.Sort.ahead w n) b 0 d) os).heap[x]? = if b = x then some (.cells (Go.Sort.putCells Go.Proofs.encStr 0 d arr) t (0, 0)) else w.heap[x]? := fun x hx => by
   simp only [Go.Sort.grow, Go.Sort.putRow, Go.Sort.mapBlock, Go.Sort.ahead, Array.getElem?_append, Array.size_modify, if_pos hx, Array.getElem?_modify]
   by_cases hbx : b = x
   · subst hbx
     rw [if_pos rfl, if_pos rfl, hh]; rfl
   · rw [if_neg hbx, if_neg hbx]
  have hoth : ∀ x, x < w.heap.size → x ≠ b → (Go.Sort.grow (Go.Sort.putRow Go.Proofs.encStr (Go.Sort.ahead w n) b 0 d) os).heap[x]? = w.heap[x]? := fun x hx hne => by
   rw [hheap x hx, if_neg (Ne.symm hne)]
  have hsz : w.heap.size ≤ (Go.Sort.grow (Go.Sort.putRow Go.Proofs.encStr (Go.Sort.ahead w n) b 0 d) os).heap.size := by simp [Go.Sort.grow, Go.Sort.putRow, Go.Sort.mapBlock, Go.Sort.ahead]
  have hent : ∀ (l : LB) id, entOf [(Id.x 0, some (Ent.row (T := TT) false Cd.str l))] id = if id = .x 0 then some (.row false .str l) else none := by
   intro l id
   by_cases h0 : id = .x 0
   · subst h0; rw [if_pos rfl]; rfl
   · have e0 : (id == Id.x 0) = false := by simpa using h0
     simp only [entOf, List.lookup_cons, List.lookup_nil, e0, if_neg h0, Option.getD_none]
  refine ⟨_, _, _, ok, ρ, rfl, hq, ⟨#[], rfl, rfl, fun i u d h => by simp at h⟩, ⟨?_, ?_, hm.inj, ?_, fun x hx => Nat.lt_of_lt_of_le (hm.okl x hx) hsz⟩, fun b h => .inl h, fun b h => h, fun id _ => .inl rfl, fun id b n s h => .inr ⟨_, _, _, h⟩, rfl, rfl, rfl, hsz, fun x hx hne => hoth x hx ?_⟩
  · intro id e he
    rw [hent] at he
    split at he
    · rename_i hid
      subst hid
      cases he
      rw [hρ]
      refine ⟨rfl, _, t, by rw [hheap b hbs, if_pos rfl], by simp [Go.Sort.putCells, hn], by rw [d_sortBA_len]; omega, fun i x j dd hx hdd => ?_⟩
      obtain ⟨hid, hval⟩ := hdm i x hx
      obtain ⟨rfl, rfl⟩ : j = 0 ∧ dd = .str x := by
       cases j with
       | zero => exact ⟨rfl, (Option.some.inj (show some (C.str x) = some dd from hdd)).symm⟩
       | succ j => cases hdd
      refine ⟨.string x, ?_, .str x⟩
      rw [Nat.mul_one, Nat.add_zero]
      simp only [Go.Sort.putCells, Array.getElem?_mapIdx, hcell i (by omega), Option.map_some, Nat.sub_zero, hval]
      rw [if_pos ⟨Nat.zero_le _, by omega⟩]
    · cases he
  · intro id he
    rw [hent] at he
    split at he
    · cases he
    · rename_i h
      exact hm.gone id (by rw [hent, if_neg h])
  · intro id e x n s he hro hx
    rw [hent] at he
    split at he
    · rename_i hid
      subst hid
      exact hm.excl (.x 0) (.row false .str l) x n s rfl rfl hx
    · cases he
  · rintro rfl
    exact hne _ _ _ hρ
end Go.Clap
