/- slices.Delete and slices.Insert at []api.Part in seat Tryz, as contracts of the small machine. -/
import Derived.Test.YthhdejjjcaamiaaGreatDoorClapE1
import Derived.Test.YthhdejjjcaamiaaGreatDoorClapG0
import Derived.Test.YthhdejjjcaamiaaGreatDoorClapFn
set_option linter.unusedVariables false
set_option linter.unusedSimpArgs false
namespace Go.Clap
open Go Go.Proofs

theorem setCells_frame (b : Nat) : ∀ (vs : List Value) (o : Nat) (w : World), (w.setCells b o vs).os = w.os ∧ (w.setCells b o vs).tape = w.tape ∧ (w.setCells b o vs).output = w.output ∧ (w.setCells b o vs).heap.size = w.heap.size ∧ ∀ x, x ≠ b → (w.setCells b o vs).heap[x]? = w.heap[x]?
  | [], o, w => ⟨rfl, rfl, rfl, rfl, fun _ _ => rfl⟩
  | v :: vs, o, w => by
    obtain ⟨h1, h2, h3, h4, h5⟩ := setCells_frame b vs (o + 1) (w.setCell ⟨b, o, none⟩ v)
    refine ⟨h1.trans rfl, h2.trans rfl, h3.trans rfl, h4.trans (by simp [World.setCell]), fun x hx => (h5 x hx).trans ?_⟩
    simp [World.setCell, Array.getElem?_modify, Ne.symm hx]

/-- The end of a call that gives a row at `b'`. -/
theorem fin_row {fid : Nat → FuncId} {c : Cd} {w w' : World} {ok : Nat → Prop} {ρ : Id → Where} {b b' cap : Nat} {arr : Array Value} {t : TypeId} {F : List Value} {l0 l : List (CU c)}
    {R : RR} (hm : Mem SS fid w ok ρ (entOf [(.x 0, some (.row false c l0))])) (hρ : (∃ n s, ρ (.x 0) = .blk b n s) ∨ w.heap.size ≤ b)
    (hb' : b' = b ∨ w.heap.size ≤ b') (hh : w'.heap[b']? = some (.cells arr t (0, 0))) (hlc : l.length ≤ cap) (hcm : cap ≤ maxLen) (hcap : cap * SS.sz c ≤ arr.size)
    (hF : ∀ (k : Nat) (v : Value), F[k]? = some v → arr[k]? = some v) (hFR : FR SS w ok c F l) (hsame : ∀ x, x < w.heap.size → x ≠ b → w'.heap[x]? = w.heap[x]?)
    (hos : w'.os = w.os) (ht : w'.tape = w.tape) (ho : w'.output = w.output) (hsz : w.heap.size ≤ w'.heap.size) (hb0 : b' < w'.heap.size)
    (hR : R (.c (.osl (.x 1) 0 l.length)) [(.x 0, none), (.x 1, some (.row false c l))]) :
    ∃ v r loc' ok' ρ', Ending.returned (.slice (some ⟨b', 0, none⟩) l.length cap) = .returned v ∧ R r loc' ∧ DRel SS fid w' ok' ρ' v r ∧ Mem SS fid w' ok' ρ' (entOf loc') ∧
      (∀ b, ok' b → ok b ∨ w.heap.size ≤ b ∨ ∃ id n s, ρ id = .blk b n s) ∧ (∀ b, ok b → ok' b) ∧
      (∀ id, entOf [(Id.x 0, some (Ent.row (T := TT) false c l0))] id ≠ none → ρ' id = ρ id ∨ ρ' id = .dead) ∧
      (∀ id b n s, ρ' id = .blk b n s → w.heap.size ≤ b ∨ ∃ id0 n0 s0, ρ id0 = .blk b n0 s0) ∧
      w'.os = w.os ∧ w'.tape = w.tape ∧ w'.output = w.output ∧ w.heap.size ≤ w'.heap.size ∧
      ∀ b, b < w.heap.size → (∀ id n s, ρ id ≠ .blk b n s) → w'.heap[b]? = w.heap[b]? := by
  have hent0 : entOf [(Id.x 0, some (Ent.row (T := TT) false c l0))] (.x 0) = some (.row false c l0) := rfl
  have hnok : ∀ x, ok x → x ≠ b := by
    intro x hx e
    subst e
    rcases hρ with ⟨n, s, h⟩ | h
    · exact hm.excl (.x 0) _ x n s hent0 rfl h hx
    · have := hm.okl x hx; omega
  have hmono : ∀ x, ok x → w'.heap[x]? = w.heap[x]? := fun x hx => hsame x (hm.okl x hx) (hnok x hx)
  have hFR' := hFR.mono hmono (fun _ h => h)
  have hent : ∀ id, entOf [(Id.x 0, none), (Id.x 1, some (Ent.row (T := TT) false c l))] id = if id = .x 1 then some (.row false c l) else none := by
    intro id
    by_cases h0 : id = .x 0
    · subst h0; rw [if_neg (by decide)]; rfl
    · have e0 : (id == Id.x 0) = false := by simpa using h0
      by_cases h1 : id = .x 1
      · subst h1; rw [if_pos rfl]; rfl
      · have e1 : (id == Id.x 1) = false := by simpa using h1
        simp only [entOf, List.lookup_cons, List.lookup_nil, e0, e1, if_neg h1, Option.getD_none]
  refine ⟨_, _, _, ok, fun id => if id = .x 1 then .blk b' arr.size (SS.sz c) else .dead, rfl, hR, ?_, ⟨?_, ?_, ?_, ?_, ?_⟩, fun x hx => .inl hx, fun x hx => hx, ?_, ?_, hos, ht, ho, hsz, ?_⟩
  · show CRel SS fid w' ok (fun id => if id = .x 1 then .blk b' arr.size (SS.sz c) else .dead) (.slice (some ⟨b', 0, none⟩) l.length cap) (.osl (.x 1) 0 l.length)
    simp only [CRel, if_true]
    exact ⟨_, cap, rfl, hlc, hcm, fun _ => ⟨by rw [Nat.zero_mul], by rw [Nat.zero_add]; exact hcap⟩⟩
  · intro id e he
    rw [hent] at he
    split at he
    · rename_i hid
      subst hid
      cases he
      rw [if_pos rfl]
      refine ⟨rfl, arr, t, hh, rfl, Nat.le_trans (Nat.mul_le_mul_right _ hlc) hcap, fun i x j d hx hd => ?_⟩
      obtain ⟨u, hu, hr⟩ := hFR'.2 i x j d hx hd
      exact ⟨u, hF _ _ hu, hr⟩
    · cases he
  · intro id he
    rw [hent] at he
    split at he
    · cases he
    · rename_i h; rw [if_neg h]
  · intro i j x n s n' s' hi hj
    dsimp only at hi hj
    split at hi
    · split at hj
      · rename_i h1 h2; rw [h1, h2]
      · cases hj
    · cases hi
  · intro id e x n s he hro hx
    dsimp only at hx
    split at hx
    · cases hx
      intro hk
      rcases hb' with rfl | h
      · exact hnok _ hk rfl
      · have := hm.okl _ hk; omega
    · cases hx
  · intro x hx
    exact Nat.lt_of_lt_of_le (hm.okl x hx) hsz
  · intro id hid
    by_cases h : id = .x 1
    · subst h
      exact absurd rfl hid
    · exact .inr (if_neg h)
  · intro id x n s h
    dsimp only at h
    split at h
    · cases h
      rcases hb' with rfl | h
      · rcases hρ with ⟨n, s, h⟩ | h
        · exact .inr ⟨_, _, _, h⟩
        · exact .inl h
      · exact .inl h
    · cases h
  · intro x hx hne
    refine hsame x hx ?_
    rintro rfl
    rcases hρ with ⟨n, s, h⟩ | h
    · exact hne _ _ _ h
    · omega
end Go.Clap
