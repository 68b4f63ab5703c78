/- The library's deletion within a slice of integers, as a contract of the small machine. -/
import Derived.Test.YtnielhfaioakkaaGreatClapSig
import Derived.Test.YtnielhfaioakkaaGreatClapCall
import Derived.Shelf.Slices.Delete
set_option linter.unusedVariables false
set_option linter.unusedSimpArgs false
namespace Go.Clap
open Go Go.Shelf Go.Lib Go.Sort Go.RowKit Go.Proofs
variable {P : Program} {fid : Nat → FuncId} {ρr : Ren}

theorem spec_del (Ly : Lays2.n23 P ρr) (hf : ρr.f 23 = fid 45) (xs : List Int) (i j : Nat) (hij : i < j) (hj : j ≤ xs.length)
    (R : D SS.toTyS → List (Id × Option (Ent SS.toTyS)) → Prop)
    (hR : R (.c (.osl (.x 0) 0 (xs.length - (j - i)))) [(.x 0, some (.row false .int (xs.take i ++ xs.drop j)))]) :
    Spec SS P fid 45 [.c (.osl (.x 0) 0 xs.length), .c (.int .i64 i), .c (.int .i64 j)] [(.x 0, some (.row false .int xs))] R := by
  refine ⟨⟨_, hf ▸ Ly.f23, rfl, rfl⟩, fun w vals ok ρ hs hv hm => ?_⟩
  have hent : ∀ (ys : List Int) (id : Id), entOf [(Id.x 0, some (Ent.row (T := SS.toTyS) false .int ys))] id = if id = .x 0 then some (.row false .int ys) else none := by
    intro ys id
    simp only [entOf, List.lookup_cons, List.lookup_nil]
    by_cases h : id = .x 0
    · subst h; simp
    · have : (id == Id.x 0) = false := by simpa using h
      simp [h, this]
  obtain ⟨v0, v1, v2, rfl⟩ : ∃ v0 v1 v2, vals = #[v0, v1, v2] := by
    refine ⟨vals[0]'(by simp at hs; omega), vals[1]'(by simp at hs; omega), vals[2]'(by simp at hs; omega), ?_⟩
    apply Array.ext
    · simpa using hs
    · intro k h1 h2
      have : k = 0 ∨ k = 1 ∨ k = 2 := by simp at h2; omega
      rcases this with rfl | rfl | rfl <;> rfl
  have r0 : CRel SS fid w ok ρ v0 (.osl (.x 0) 0 xs.length) := hv 0 _ _ rfl rfl
  obtain rfl : v1 = Value.int .i64 i := hv 1 _ _ rfl rfl
  obtain rfl : v2 = Value.int .i64 j := hv 2 _ _ rfl rfl
  have hlive := hm.live (.x 0) (.row false .int xs) (by rw [hent]; simp)
  cases hρ : ρ (.x 0) with
  | dead => rw [hρ] at hlive; exact hlive.elim
  | empty =>
    rw [hρ] at hlive
    have : xs = [] := hlive
    subst this
    simp at hj
    omega
  | blk b n sz =>
    rw [hρ] at hlive
    simp only [CRel, hρ] at r0
    obtain ⟨hz, arr, t, hh, hn, hfit, hcells⟩ := hlive
    obtain rfl : sz = 1 := hz
    rw [Nat.mul_one] at hfit
    obtain ⟨base, cap, rfl, hc1, hc2, hc3⟩ := r0
    obtain ⟨rfl, hc4⟩ := hc3 (by omega)
    have hcell : ∀ k (h : k < xs.length), arr[k]? = some (.int .i64 xs[k]) := fun k h => by
      obtain ⟨u, hu, hr⟩ := hcells k xs[k] 0 (.int .i64 xs[k]) (List.getElem?_eq_getElem h) rfl
      cases hr
      simpa using hu
    have hH : Holds encI w b 0 xs.toArray := by
      intro k hk
      have hk' : k < xs.length := by simpa using hk
      refine ⟨?_, ?_⟩
      · simp only [World.cell?, hh, Nat.zero_add, hcell k hk']
        rw [getElem!_pos _ k (by simpa using hk')]
        simp
      · simp [World.frozen?, hh]
    have hmx : maxLen = 9223372036854775807 := rfl
    have hcall := Any.slices_Delete_int_arr Ly b 0 cap i j xs.toArray w hH (by simpa using hc1) (by omega) (by omega) (by simpa using hj)
    have hsz : xs.toArray.size = xs.length := by simp
    rw [hsz, hf] at hcall
    simp only [Nat.zero_mul]
    refine hcall.mono ?_
    rintro e w' ⟨rfl, q, rfl⟩
    obtain ⟨d', hd'⟩ : ∃ d', d' = (xs.toArray.toList.take i ++ xs.toArray.toList.drop j ++ List.replicate (j - i) 0).toArray := ⟨_, rfl⟩
    rw [← hd']
    have hd2 : d'.toList = xs.take i ++ xs.drop j ++ List.replicate (j - i) 0 := by rw [hd']
    have hds : d'.size = xs.length := by rw [← Array.length_toList, hd2]; simp; omega
    have hb' : (putRow encI (Sort.ahead w q) b 0 d').heap[b]? = some (.cells (putCells encI 0 d' arr) t (0, 0)) := by
      simp only [putRow, mapBlock, heap_ahead, Array.getElem?_modify, hh]
      simp [onCells]
    have hlen2 : (xs.take i ++ xs.drop j).length = xs.length - (j - i) := by simp; omega
    refine ⟨_, _, _, ok, ρ, rfl, hR, ?_, ⟨?_, ?_, hm.inj, ?_, ?_⟩, fun b hb => .inl hb, fun b hb => hb, fun id _ => .inl rfl, fun id b' n' s' h => .inr ⟨id, n', s', h⟩, rfl, rfl, rfl, ?_, ?_⟩
    · show CRel SS fid (putRow encI (Sort.ahead w q) b 0 d') ok ρ (.slice (some ⟨b, 0, none⟩) (xs.length - (j - i)) cap) (.osl (.x 0) 0 (xs.length - (j - i)))
      simp only [CRel, hρ]
      exact ⟨_, cap, rfl, by omega, hc2, fun h => ⟨rfl, hc4⟩⟩
    · intro id e he
      rw [hent] at he
      split at he
      · rename_i hid
        subst hid
        cases he
        rw [hρ]
        refine ⟨rfl, _, t, hb', by simpa [putCells] using hn, by rw [hlen2]; omega, fun k x l d hx hd => ?_⟩
        obtain ⟨hk, hxe⟩ := List.getElem?_eq_some_iff.1 hx
        have hl : l = 0 := by
          cases l with
          | zero => rfl
          | succ l =>
            have hd : ([] : List (C SS.toTyS))[l]? = some d := hd
            cases hd
        subst hl
        obtain rfl : C.int .i64 x = d := Option.some.inj hd
        refine ⟨_, ?_, .int .i64 x⟩
        have hkl : k < xs.length := by rw [hlen2] at hk; omega
        have hka : arr[k]? = some (.int .i64 xs[k]) := hcell k hkl
        have hdk : d'[k]! = x := by
          rw [getElem!_pos d' k (by omega), ← Array.getElem_toList]
          simp only [hd2]
          rw [List.getElem_append_left (by simpa using hk)]
          exact hxe
        simp only [putCells, Array.getElem?_mapIdx, Nat.mul_one, Nat.add_zero, hka, Option.map_some]
        rw [if_pos ⟨by omega, by omega⟩, Nat.sub_zero, hdk]
      · cases he
    · intro id he
      refine hm.gone id ?_
      rw [hent] at he ⊢
      split at he
      · cases he
      · rename_i h; rw [if_neg h]
    · intro id e b' n' s' he hro hb
      rw [hent] at he
      split at he
      · rename_i hid
        subst hid
        exact hm.excl (.x 0) (.row false .int xs) b' n' s' (by rw [hent]; simp) rfl hb
      · cases he
    · intro b' hb
      rw [size_putRow]
      exact hm.okl b' hb
    · rw [size_putRow]
      exact Nat.le_refl _
    · intro b' hb hne
      have hne' : b ≠ b' := by
        rintro rfl
        exact hne (.x 0) n 1 hρ
      simp only [putRow, mapBlock, heap_ahead, Array.getElem?_modify]
      rw [if_neg hne']
end Go.Clap
