/- Rows of several cells an element: what clear, copy and slices.overlaps do; what a row of the machine says in cells. -/
import Derived.Test.YthhdejjjcaamiaaGreatDoorClapSig
import Derived.Laws.IdiomCopy
import Derived.Laws.Externs
import Derived.Lib.SliceRun
set_option linter.unusedVariables false
set_option linter.unusedSimpArgs false
namespace Go.Clap
open Go
variable {P : Program}

theorem run_clear_k (w : World) (t e ty : TypeId) (z : Value) (k : Nat) (ht : P.underlying t = some (.slice e)) (hv : ∀ w, (zeroValue e).run P w = .ok z w) (hk : z.cells.size = k) (h1 : ∀ v ∈ z.cells.toList, v.oneCell' = true) (hk0 : 0 < k) (b o n c : Nat) (hn : 0 < n)
    (hc : ∀ j, j < n * k → (w.cell? ⟨b, o + j, none⟩).isSome = true) (hf : ∀ j, j < n * k → w.frozen? ⟨b, o + j, none⟩ = false) :
    (Builtin.clear_ #[t] ty #[.slice (some ⟨b, o, none⟩) n c]).run P w = .ok (.tuple #[]) (w.setCells b o (Builtin.zeroCells z.cells n).toList) := by
  have hl : (Builtin.zeroCells z.cells n).toList.length = n * k := by simp [Builtin.zeroCells, hk]
  have ho : ∀ v ∈ (Builtin.zeroCells z.cells n).toList, v.oneCell' = true := by
    intro v hv'
    simp only [Builtin.zeroCells, Array.toList_map, List.mem_map] at hv'
    obtain ⟨i, _, rfl⟩ := hv'
    have hi : i % z.cells.size < z.cells.size := Nat.mod_lt _ (by omega)
    refine h1 _ ?_
    rw [getElem!_pos z.cells _ hi]
    exact Array.getElem_mem_toList hi
  have hst := run_storeCells_cells (P := P) b o (Builtin.zeroCells z.cells n).toList 0 w (by simpa [hl] using hc) (by simpa [hl] using hf) ho
  simp only [Nat.add_zero] at hst
  obtain ⟨m, rfl⟩ : ∃ m, n = m + 1 := ⟨n - 1, by omega⟩
  simp [Builtin.clear_, run_underlying ht, hv, hst]

theorem run_copy_k (w : World) (dT sT ty elem : TypeId) (k b o dLen dCap : Nat) (a : Addr) (sLen sCap : Nat) (cs : List Value) (m : Nat)
    (hu : P.underlying dT = some (.slice elem)) (hs : (P.info? elem).map (·.size) = some k) (hm : m = Nat.min sLen dLen) (hn : cs.length = m * k)
    (hsrc : ∀ j v, cs[j]? = some v → w.cell? (a.add j) = some v) (hc : ∀ j, j < cs.length → (w.cell? ⟨b, o + j, none⟩).isSome = true) (hf : ∀ j, j < cs.length → w.frozen? ⟨b, o + j, none⟩ = false) (h1 : ∀ v ∈ cs, v.oneCell' = true) :
    (Builtin.copy_ #[dT, sT] ty #[.slice (some ⟨b, o, none⟩) dLen dCap, .slice (some a) sLen sCap]).run P w = .ok (goInt m) (w.setCells b o cs) := by
  have hl := run_loadCells_list (P := P) w a cs hsrc
  have hst := run_storeCells_cells (P := P) b o cs 0 w (by simpa using hc) (by simpa using hf) h1
  cases hq : P.info? elem with
  | none => simp [hq] at hs
  | some i =>
    have hi : i.size = k := by simpa [hq] using hs
    simp [Builtin.copy_, run_underlying hu, Builtin.lenOf, Builtin.firstCells, sizeOf, typeInfo, hq, hi, ← hm, ← hn, hl, hst]

/-- slices.overlaps where the second slice lies in another block, which is nobody's constant. -/
theorem run_overlaps_own (w : World) (tS tR e : TypeId) (ht : P.underlying tS = some (.slice e)) (size : Nat) (hz : ∀ w, (Go.sizeOf e).run P w = .ok size w)
    (a b : Addr) (la ca lb cb : Nat) (hne : a.block ≠ b.block) (tA tB : TypeId) (kA kB : Nat)
    (hsa : w.shape? a.block = some (tA, kA)) (hsb : w.shape? b.block = some (tB, kB)) (hkB : kB ≠ 0) (hkA : kA ≠ 0)
    (hfb : w.frozen? b = false) (hfe : w.frozen? { block := b.block, off := kB } = false) :
    (Extern.SlicesOverlaps.overlaps #[tS, tS] #[tR] #[.slice (some a) la ca, .slice (some b) lb cb]).run P w = .ok (.bool false) w := by
  have hnb : (a.block != b.block) = true := by simpa using hne
  have hnb' : (a.block == b.block) = false := by simpa using hne
  change Sem.run P (α := Value) (do
    let some t := (#[tS, tS] : Array TypeId)[0]? | stuck "slices.overlaps: no parameter types"
    let .slice elem ← underlying t | stuck "slices.overlaps: slice type expected"
    let size ← sizeOf elem
    match (some a : Option Addr), (some b : Option Addr) with
    | some a, some b =>
      if la = 0 ∨ lb = 0 ∨ size = 0 then pure (Value.bool false)
      else if a.block != b.block && (← frozen a) && (← frozen b) then unsupported .addressObserved
      else do
        if a.block != b.block then do
          noView a; noView b
          if ← mayBeOne a b then return Value.bool ((← choose (.extern "sameAddr.stringBytes" 2)) == 1)
        pure (Value.bool (a.block == b.block && a.off < b.off + lb * size && b.off < a.off + la * size))
    | _, _ => pure (Value.bool false)) w = _
  by_cases h0 : la = 0 ∨ lb = 0 ∨ size = 0
  · simp [run_underlying ht, hz, h0]
  · cases kB with
    | zero => exact absurd rfl hkB
    | succ kB => cases kA with
      | zero => exact absurd rfl hkA
      | succ kA =>
      simp [run_underlying ht, hz, h0, hnb, hnb', frozen, noView, viewAt, mayBeOne, stringish, shape, Sem.run, hsa, hsb, hfb, hfe]

/-- What a block holds behind some stores. -/
theorem heap_setCells (b : Nat) (t : TypeId) (fr : Nat × Nat) : ∀ (vs : List Value) (o : Nat) (w : World) (arr : Array Value), w.heap[b]? = some (.cells arr t fr) → o + vs.length ≤ arr.size →
    ∃ arr', (w.setCells b o vs).heap[b]? = some (.cells arr' t fr) ∧ arr'.size = arr.size ∧ ∀ j, arr'[j]? = if o ≤ j ∧ j < o + vs.length then vs[j - o]? else arr[j]?
  | [], o, w, arr, h, hl => ⟨arr, h, rfl, fun j => by rw [if_neg (by simp only [List.length_nil]; omega)]⟩
  | v :: vs, o, w, arr, h, hl => by
    simp only [List.length_cons] at hl
    have h1 : (w.setCell ⟨b, o, none⟩ v).heap[b]? = some (.cells (arr.set! o v) t fr) := by
      simp [World.setCell, Array.getElem?_modify, h]
    obtain ⟨arr', h2, h3, h4⟩ := heap_setCells b t fr vs (o + 1) _ _ h1 (by simp; omega)
    refine ⟨arr', h2, by simpa using h3, fun j => ?_⟩
    rw [h4]
    by_cases hj : j = o
    · subst hj
      rw [if_neg (by omega), if_pos (by simp)]
      simp [Array.getElem?_setIfInBounds, show j < arr.size by omega]
    · by_cases hin : o + 1 ≤ j ∧ j < o + 1 + vs.length
      · rw [if_pos hin, if_pos (by simp; omega)]
        rw [show j - o = (j - (o + 1)) + 1 by omega]
        rfl
      · rw [if_neg hin, if_neg (by simp; omega)]
        simp [Array.getElem?_setIfInBounds, Ne.symm hj]

/-- A row in cells. -/
def FR (S : Sig) (w : World) (ok : Nat → Prop) (c : S.Ty) (F : List Value) (xs : List (S.U c)) : Prop :=
  F.length = xs.length * S.sz c ∧ ∀ i x j d, xs[i]? = some x → (S.row c x)[j]? = some d → ∃ u, F[i * S.sz c + j]? = some u ∧ IRel S w ok u d
section
variable {S : Sig} {w w' : World} {ok ok' : Nat → Prop} {c : S.Ty} {F G : List Value} {xs ys : List (S.U c)}
theorem row_lt {x : S.U c} {j : Nat} {d : C S.toTyS} (h : (S.row c x)[j]? = some d) : j < S.sz c := by
  have := (List.getElem?_eq_some_iff.1 h).1
  rwa [S.row_len] at this
theorem lt_mul {i n j k : Nat} (hi : i < n) (hj : j < k) : i * k + j < n * k := by
  have h1 : (i + 1) * k ≤ n * k := Nat.mul_le_mul_right k hi
  rw [Nat.add_mul, Nat.one_mul] at h1
  omega
theorem FR.mono (hs : ∀ b, ok b → w'.heap[b]? = w.heap[b]?) (ho : ∀ b, ok b → ok' b) (h : FR S w ok c F xs) : FR S w' ok' c F xs :=
  ⟨h.1, fun i x j d hx hd => by obtain ⟨u, hu, hr⟩ := h.2 i x j d hx hd; exact ⟨u, hu, hr.mono hs ho⟩⟩
theorem FR.append (h : FR S w ok c F xs) (h' : FR S w ok c G ys) : FR S w ok c (F ++ G) (xs ++ ys) := by
  refine ⟨by rw [List.length_append, List.length_append, h.1, h'.1, Nat.add_mul], fun i x j d hx hd => ?_⟩
  have hj := row_lt hd
  rw [List.getElem?_append] at hx
  split at hx
  · rename_i hi
    obtain ⟨u, hu, hr⟩ := h.2 i x j d hx hd
    refine ⟨u, ?_, hr⟩
    rw [List.getElem?_append_left (by rw [h.1]; exact lt_mul hi hj)]
    exact hu
  · rename_i hi
    obtain ⟨u, hu, hr⟩ := h'.2 _ x j d hx hd
    refine ⟨u, ?_, hr⟩
    have h2 : xs.length * S.sz c ≤ i * S.sz c := Nat.mul_le_mul_right _ (by omega)
    rw [List.getElem?_append_right (by rw [h.1]; omega), h.1, show i * S.sz c + j - xs.length * S.sz c = (i - xs.length) * S.sz c + j by rw [Nat.sub_mul]; omega]
    exact hu
theorem FR.take (h : FR S w ok c F xs) (m : Nat) (hm : m ≤ xs.length) : FR S w ok c (F.take (m * S.sz c)) (xs.take m) := by
  have h2 : m * S.sz c ≤ xs.length * S.sz c := Nat.mul_le_mul_right _ hm
  refine ⟨by rw [List.length_take, List.length_take, h.1, Nat.min_eq_left h2, Nat.min_eq_left hm], fun i x j d hx hd => ?_⟩
  have hj := row_lt hd
  rw [List.getElem?_take] at hx
  split at hx
  · rename_i hi
    obtain ⟨u, hu, hr⟩ := h.2 i x j d hx hd
    exact ⟨u, by rw [List.getElem?_take, if_pos (lt_mul hi hj)]; exact hu, hr⟩
  · cases hx
theorem FR.drop (h : FR S w ok c F xs) (m : Nat) : FR S w ok c (F.drop (m * S.sz c)) (xs.drop m) := by
  refine ⟨by rw [List.length_drop, List.length_drop, h.1, Nat.sub_mul], fun i x j d hx hd => ?_⟩
  rw [List.getElem?_drop] at hx
  obtain ⟨u, hu, hr⟩ := h.2 _ x j d hx hd
  exact ⟨u, by rw [List.getElem?_drop, ← Nat.add_assoc, ← Nat.add_mul]; exact hu, hr⟩
theorem FR.one (h : FR S w ok c F xs) : ∀ v ∈ F, v.oneCell' = true := by
  intro v hv
  obtain ⟨n, hn, rfl⟩ := List.mem_iff_getElem.1 hv
  have hk := S.sz_pos c
  rw [h.1] at hn
  have hi : n / S.sz c < xs.length := Nat.div_lt_of_lt_mul (by rw [Nat.mul_comm]; exact hn)
  have hj : n % S.sz c < S.sz c := Nat.mod_lt _ hk
  obtain ⟨u, hu, hr⟩ := h.2 _ _ _ _ (List.getElem?_eq_getElem hi) (List.getElem?_eq_getElem (l := S.row c xs[n / S.sz c]) (i := n % S.sz c) (by rw [S.row_len]; exact hj))
  have e : n / S.sz c * S.sz c + n % S.sz c = n := by rw [Nat.mul_comm]; exact Nat.div_add_mod n _
  rw [e] at hu
  rw [(List.getElem?_eq_some_iff.1 hu).2]
  exact hr.oneCell
/-- From an entry. -/
theorem FR.of_arr {arr : Array Value} (hl : xs.length * S.sz c ≤ arr.size) (h : ∀ (i : Nat) (x : S.U c) (j : Nat) (d : C S.toTyS), xs[i]? = some x → (S.row c x)[j]? = some d → ∃ u, arr[i * S.sz c + j]? = some u ∧ IRel S w ok u d) :
    FR S w ok c (arr.toList.take (xs.length * S.sz c)) xs := by
  refine ⟨by simp; omega, fun i x j d hx hd => ?_⟩
  obtain ⟨u, hu, hr⟩ := h i x j d hx hd
  refine ⟨u, ?_, hr⟩
  rw [List.getElem?_take, if_pos (lt_mul (List.getElem?_eq_some_iff.1 hx).1 (row_lt hd))]
  simpa using hu
end
end Go.Clap
