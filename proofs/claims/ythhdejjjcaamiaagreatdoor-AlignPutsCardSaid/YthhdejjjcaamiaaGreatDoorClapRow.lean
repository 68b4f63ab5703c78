/- From a contract over immutable arguments to a call in a world that is given: slices of numbers that came in. -/
import Derived.Test.YthhdejjjcaamiaaGreatDoorClapSig
import Derived.ProofKit
set_option linter.unusedVariables false
set_option linter.unusedSimpArgs false
namespace Go.Clap
open Go.ChangeShapes Go.WideShapes Go.ChangeAt Go.RowKit
variable {P : Program} {fid : Nat → FuncId}

theorem mem_none (W : World) : Mem SS fid W (fun b => b < W.heap.size) (fun _ => .dead) (entOf ([] : List (Id × Option (Ent TT)))) where
  live id e he := by simp [entOf] at he
  gone _ _ := rfl
  inj i j b n s n' s' hi _ := by cases hi
  excl id e b n s he _ _ := by simp [entOf] at he
  okl b hb := hb

/-- A law that holds: the call returns true, and what lay there lies there. -/
theorem calls_of_spec {f : Nat} {args : List (D TT)} (h : Spec SS P fid f args [] fun d _ => d = .c (.bool true)) {W : World} {vals : Array Value} (hl : vals.size = args.length)
    (hr : ∀ (i : Nat) v d, vals[i]? = some v → args[i]? = some d → DRel SS fid W (fun b => b < W.heap.size) (fun _ => .dead) v d) :
    Calls P (fid f) vals W fun e W' => e = .returned (.bool true) ∧ Below W.heap.size W W' := by
  refine (h.2 W vals _ _ hl hr (mem_none W)).mono fun e W' ⟨v, r, loc', ok', ρ', he, hR, hd, _, _, _, _, _, hos, ht, ho, hsz, hb⟩ => ?_
  subst hR
  have hv : v = .bool true := hd
  subst hv
  exact ⟨he, ⟨hos, ht, ho, hsz, fun i hi => hb i hi fun _ _ _ h => by cases h⟩⟩

/-- A slice of numbers that came in. -/
theorem open_list {t e : TypeId} (ht : P.underlying t = some (.slice e)) (he : P.underlying e = some (.int .i64)) (hc : P.cellsOf e = 1) {H : Type} {enc : TypeId × Value → H} {W : World} {a0 : Option Addr} {len cap : Nat} {d0 : DataW H} {p : List MemPlace}
    (h0 : DataW.Trod enc P W 0 (fun _ => true) true t (.slice a0 len cap) d0 p) :
    ∃ xs : List Int, DRel SS fid W (fun b => b < W.heap.size) (fun _ => .dead) (.slice a0 len cap) (.c (.isl .int xs)) := by
  obtain ⟨fuel, hf⟩ := h0
  rcases open_ints ht he hc hf with ⟨hcs, hx⟩ | ⟨a, len', cap', zs, hcs, _, hl, hm, hz, hx, hcell, hwz⟩
  · simp [Value.cells] at hcs
    obtain ⟨rfl, rfl, rfl⟩ := hcs
    have key : IRel SS W (fun b => b < W.heap.size) (.slice none ([] : List Int).length 0) (.isl Cd.int ([] : List Int)) :=
      IRel.of_isl (S := SS) (c := Cd.int) (xs := ([] : List Int)) ⟨by simp, by simp, fun hne => absurd rfl hne⟩
    exact ⟨[], key⟩
  · simp [Value.cells] at hcs
    obtain ⟨rfl, rfl, rfl⟩ := hcs
    simp only [if_true] at hz
    refine ⟨zs.take len, ?_⟩
    have hlen : (zs.take len).length = len := by simp; omega
    have key : IRel SS W (fun b => b < W.heap.size) (.slice (some a) (zs.take len).length cap) (.isl .int (zs.take len)) := by
      refine IRel.of_isl (S := SS) (c := Cd.int) (xs := zs.take len) ⟨by rw [hlen]; exact hl, hm, fun hne => ?_⟩
      have hpos : 0 < zs.length := by
        rcases Nat.eq_zero_or_pos zs.length with h | h
        · rw [List.length_eq_zero_iff] at h; subst h; simp at hne
        · exact h
      obtain ⟨b, off, spot⟩ := a
      have hspot : spot = none := by simpa [Addr.add] using World.cell?_spot (hcell 0 hpos)
      subst hspot
      have cj : ∀ j, j < zs.length → W.cell? ⟨b, off + j, none⟩ = some (.int .i64 (zs.getD j 0)) := fun j hj => by rw [← add_plain]; exact hcell j hj
      have hb : b < W.heap.size := by
        have := cj 0 hpos
        unfold World.cell? at this
        rcases Nat.lt_or_ge b W.heap.size with h | h
        · exact h
        · simp [Array.getElem?_eq_none h] at this
      refine ⟨b, off, rfl, hb, fun i x j d hx hd => ?_⟩
      have hi := (List.getElem?_eq_some_iff.1 hx).1
      rw [hlen] at hi
      have hil : i < zs.length := by omega
      rw [List.getElem?_take, if_pos hi] at hx
      cases j with
      | succ j => simp [rowC] at hd
      | zero =>
        simp [rowC] at hd
        subst hd
        refine ⟨.int .i64 x, ?_, .int _ _⟩
        have h1 := cj i hil
        have hx' : zs.getD i 0 = x := by simp [List.getD, hx]
        rw [hx'] at h1
        show W.cell? ⟨b, off + i * 1 + 0, none⟩ = _
        rw [Nat.mul_one, Nat.add_zero]
        exact h1
    rw [hlen] at key
    exact key

end Go.Clap
