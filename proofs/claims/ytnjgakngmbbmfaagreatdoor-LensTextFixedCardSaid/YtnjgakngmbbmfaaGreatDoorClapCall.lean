/- The checks of the small code against the loaded functions. -/
import Derived.Test.YtnjgakngmbbmfaaGreatDoorClapSound6
import Derived.Laws.Externs
set_option linter.unusedVariables false
set_option linter.unusedSimpArgs false
namespace Go.Clap
variable {S : Sig} {fid : Nat → FuncId} {P : Program} {X : Ctx S} {σ : St S.toTyS} {a : Act} {w : World} {ok : Nat → Prop} {ρ : Id → Where}
variable {o : Oper} {next : Act → World → Prop} {Q : Exit → Act → World → Prop} {K : D S.toTyS → St S.toTyS → Prop} {T : Id → Prop}
def Spec (S : Sig) (P : Program) (fid : Nat → FuncId) : Oracle S.toTyS := fun f args loc R =>
 (∃ fn, P.funcs[fid f]? = some fn ∧ fn.body.isSome = true ∧ (fn.name == "runtime.NumGoroutine") = false) ∧
 ∀ (w : World) (vals : Array Value) (ok : Nat → Prop) (ρ : Id → Where), vals.size = args.length →
  (∀ (i : Nat) v d, vals[i]? = some v → args[i]? = some d → DRel S fid w ok ρ v d) → Mem S fid w ok ρ (entOf loc) → Gl S w ok ρ →
  Calls P (fid f) vals w fun e w' => ∃ v r loc' ok' ρ', e = .returned v ∧ R r loc' ∧ DRel S fid w' ok' ρ' v r ∧ Mem S fid w' ok' ρ' (entOf loc') ∧
   (∀ b, ok' b → ok b ∨ w.heap.size ≤ b ∨ ∃ id n s, ρ id = .blk b n s) ∧ (∀ b, ok b → ok' b) ∧
   (∀ id, entOf loc id ≠ none → ρ' id = ρ id ∨ ρ' id = .dead) ∧
   (∀ id b n s, ρ' id = .blk b n s → w.heap.size ≤ b ∨ ∃ id0 n0 s0, ρ id0 = .blk b n0 s0) ∧
   w'.os = w.os ∧ w'.tape = w.tape ∧ w'.output = w.output ∧ w.heap.size ≤ w'.heap.size ∧
   ∀ b, b < w.heap.size → (∀ id n s, ρ id ≠ .blk b n s) → w'.heap[b]? = w.heap[b]?
theorem Spec.mono {f : Nat} {args : List (D S.toTyS)} {loc : List (Id × Option (Ent S.toTyS))} {R R' : D S.toTyS → List (Id × Option (Ent S.toTyS)) → Prop}
 (h : Spec S P fid f args loc R) (hr : ∀ r l, R r l → R' r l) : Spec S P fid f args loc R' :=
 ⟨h.1, fun w vals ok ρ h1 h2 h3 h4 => (h.2 w vals ok ρ h1 h2 h3 h4).mono fun e w' ⟨v, r, l, ok', ρ', he, hR, rest⟩ => ⟨v, r, l, ok', ρ', he, hr r l hR, rest⟩⟩
theorem CRel.ren {ρ' : Id → Where} {f : Id → Option Id} {v : Value} {c : C S.toTyS} (h : CRel S fid w ok ρ v c) (hf : ∀ id i, id ∈ c.ids → f id = some i → ρ' i = ρ id ∨ ρ' i = .dead) :
 CRel S fid w ok ρ' v (c.ren f) := by
 have h1 := h.oneCell
 cases c <;> simp only [C.ren]
 case osl id off len =>
  cases hi : f id with
  | none => exact h1
  | some i =>
   simp only [CRel] at h ⊢
   rcases hf id i (by simp [C.ids]) hi with e | e <;> rw [e]
   · exact h
   · exact h1
 case ptr id e off =>
  cases hi : f id with
  | none => exact h1
  | some i =>
   simp only [CRel] at h ⊢
   rcases hf id i (by simp [C.ids]) hi with e | e <;> rw [e]
   · exact h
   · exact h1
 case fn g caps =>
  cases hm : caps.mapM f with
  | none => exact h1
  | some l =>
   simp only [CRel] at h ⊢
   obtain ⟨vs, rfl, hl, hc⟩ := h
   have hml : ∀ (caps l : List Id), caps.mapM f = some l → l.length = caps.length ∧ ∀ (i : Nat) y, l[i]? = some y → ∃ x, caps[i]? = some x ∧ f x = some y := by
    intro caps
    induction caps with
    | nil => intro l h; simp at h; subst h; exact ⟨rfl, fun i y h => by simp at h⟩
    | cons x xs ih =>
     intro l h
     simp only [List.mapM_cons, Option.bind_eq_bind, Option.pure_def] at h
     cases hx : f x with
     | none => simp [hx] at h
     | some y =>
      cases hxs : xs.mapM f with
      | none => simp [hx, hxs] at h
      | some ys =>
       simp [hx, hxs] at h
       subst h
       obtain ⟨h2, h3⟩ := ih ys hxs
       refine ⟨by simp [h2], fun i z hz => ?_⟩
       cases i with
       | zero => simp at hz; subst hz; exact ⟨x, rfl, hx⟩
       | succ i => simp at hz; simpa using h3 i z hz
   obtain ⟨h2, h3⟩ := hml caps l hm
   refine ⟨vs, rfl, by omega, fun i id b n sz hi hb => ?_⟩
   obtain ⟨x, hx, hfx⟩ := h3 i id hi
   rcases hf x id (by simpa [C.ids] using List.mem_of_getElem? hx) hfx with e | e
   · exact hc i x b n sz hx (e ▸ hb)
   · rw [e] at hb; cases hb
 case mapp id =>
  cases hi : f id with
  | none => exact h1
  | some i =>
   simp only [CRel] at h ⊢
   rcases hf id i (by simp [C.ids]) hi with e | e <;> rw [e]
   · exact h
   · exact h1
 all_goals exact h
theorem LRel.ren {ρ' : Id → Where} {f : Id → Option Id} {vs : List Value} {cs : List (C S.toTyS)} (h : LRel S fid w ok ρ vs cs) (hf : ∀ id i, id ∈ idsL cs → f id = some i → ρ' i = ρ id ∨ ρ' i = .dead) :
 LRel S fid w ok ρ' vs (cs.map (C.ren f)) := by
 refine ⟨by simp [h.1], fun i v c hv hc => ?_⟩
 simp only [List.getElem?_map, Option.map_eq_some_iff] at hc
 obtain ⟨c', hc', rfl⟩ := hc
 exact (h.2 i v c' hv hc').ren fun id j hi => hf id j (mem_idsL (List.mem_of_getElem? hc') hi)
theorem DRel1.ren {ρ' : Id → Where} {f : Id → Option Id} {v : Value} {d : D S.toTyS} (h : DRel1 S fid w ok ρ v d) (hf : ∀ id i, id ∈ d.ids1 → f id = some i → ρ' i = ρ id ∨ ρ' i = .dead) :
 DRel1 S fid w ok ρ' v (d.ren1 f) := by
 cases d with
 | any => exact True.intro
 | c x => exact CRel.ren h hf
 | agg cs => obtain ⟨arr, rfl, hl⟩ := h; exact ⟨arr, rfl, hl.ren hf⟩
 | tup _ => exact h.elim
 | arrv c xs => exact h
theorem DRel.ren {ρ' : Id → Where} {f : Id → Option Id} {v : Value} {d : D S.toTyS} (h : DRel S fid w ok ρ v d) (hf : ∀ id i, id ∈ d.ids → f id = some i → ρ' i = ρ id ∨ ρ' i = .dead) :
 DRel S fid w ok ρ' v (d.ren f) := by
 cases d with
 | tup ds =>
  obtain ⟨arr, rfl, hl, hc⟩ := h
  refine ⟨arr, rfl, by simp [hl], fun i u d hu hd => ?_⟩
  simp only [List.getElem?_map, Option.map_eq_some_iff] at hd
  obtain ⟨d', hd', rfl⟩ := hd
  exact (hc i u d' hu hd').ren fun id j hi => hf id j (mem_idsD (List.mem_of_getElem? hd') hi)
 | any => exact True.intro
 | c x => exact CRel.ren h hf
 | agg cs => exact DRel1.ren (d := .agg cs) h hf
 | arrv c xs => exact h
theorem EntRel.ren {ρ' : Id → Where} {f : Id → Option Id} {wh : Where} {e : Ent S.toTyS} (h : EntRel S fid w ok ρ wh e) (hf : ∀ id i, id ∈ e.ids → f id = some i → ρ' i = ρ id ∨ ρ' i = .dead) :
 EntRel S fid w ok ρ' wh (e.ren f) := by
 cases wh with
 | dead => exact h.elim
 | empty => cases e <;> first | exact h | exact h.elim
 | blk b n s => cases e with
  | row ro c xs => exact h
  | var cs => obtain ⟨arr, t, h1, h2, h3⟩ := h; exact ⟨arr, t, h1, h2, h3.ren hf⟩
  | map kc vc l => exact h
  | tab c rows cur =>
   obtain ⟨h1, arr, t, h2, h3, h4, h5⟩ := h
   have key : ∀ cur' : Option (Nat × Option (Id × Nat)), (∀ j r u, CRel S fid w ok ρ u (tabC c cur j r) → CRel S fid w ok ρ' u (tabC c cur' j r)) → EntRel S fid w ok ρ' (.blk b n s) (.tab c rows cur') :=
    fun cur' hk => ⟨h1, arr, t, h2, h3, h4, fun j r hr => by obtain ⟨u, hu, hi⟩ := h5 j r hr; exact ⟨u, hu, hk j r u hi⟩⟩
   cases cur with
   | none => exact key none fun j r u hu => hu
   | some p =>
    obtain ⟨k, q⟩ := p
    cases q with
    | none =>
     refine key (some (k, none)) fun j r u hu => ?_
     simp only [tabC] at hu ⊢
     split at hu
     · rename_i e; rw [if_pos e]; exact hu
     · rename_i e; rw [if_neg e]; exact hu
    | some p =>
     obtain ⟨id, len⟩ := p
     simp only [Ent.ren]
     cases hi : f id with
     | none =>
      refine key _ fun j r u hu => ?_
      simp only [tabC] at hu ⊢
      split at hu
      · rename_i e; rw [if_pos e]; exact hu.oneCell
      · rename_i e; rw [if_neg e]; exact hu
     | some i =>
      refine key _ fun j r u hu => ?_
      simp only [tabC] at hu ⊢
      split at hu
      · rename_i e
        rw [if_pos e]
        have := hu.ren (f := f) (ρ' := ρ') fun id' i' hm hi' => hf id' i' (by simpa [C.ids, Ent.ids] using hm) hi'
        simpa [C.ren, hi] using this
      · rename_i e; rw [if_neg e]; exact hu
theorem Ent.ren_ro {f : Id → Option Id} {T : TyS} (e : Ent T) : (e.ren f).ro = e.ro := by
 cases e with
 | row ro c xs => rfl
 | var cs => rfl
 | map kc vc l => rfl
 | tab c rows cur =>
  cases cur with
  | none => rfl
  | some p =>
   obtain ⟨k, q⟩ := p
   cases q with
   | none => rfl
   | some p =>
    obtain ⟨id, len⟩ := p
    simp only [Ent.ren]
    split <;> rfl
def rhoX (L : List Id) (ρ : Id → Where) : Id → Where
 | .x j => match L[j]? with
  | some id => ρ id
  | none => .dead
 | _ => .dead
theorem toX_spec {L : List Id} {id i : Id} (h : toX L id = some i) : ∃ j, i = .x j ∧ L[j]? = some id := by
 unfold toX at h
 simp only [Option.map_eq_some_iff] at h
 obtain ⟨j, h1, rfl⟩ := h
 have := List.idxOf?_eq_some_iff.1 h1
 refine ⟨j, rfl, ?_⟩
 obtain ⟨h2, h3, _⟩ := this
 rw [List.getElem?_eq_getElem h2, h3]
theorem lookup_zipIdx {T : TyS} (g : Id → Option (Ent T)) : ∀ (L : List Id) (n j : Nat), ((L.zipIdx n).map fun (p : Id × Nat) => (Id.x p.2, g p.1)).lookup (Id.x j) = if n ≤ j then (L[j - n]?).map g else none
 | [], n, j => by simp
 | id :: L, n, j => by
  simp only [List.zipIdx_cons, List.map_cons, List.lookup_cons]
  by_cases h : j = n
  · subst h; simp
  · have : (Id.x j == Id.x n) = false := by simpa using h
    simp only [this]
    rw [lookup_zipIdx g L (n + 1) j]
    by_cases h2 : n ≤ j
    · rw [if_pos (by omega), if_pos h2]
      obtain ⟨k, rfl⟩ : ∃ k, j = n + 1 + k := ⟨j - n - 1, by omega⟩
      rw [show n + 1 + k - (n + 1) = k by omega, show n + 1 + k - n = k + 1 by omega]
      simp
    · rw [if_neg (by omega), if_neg h2]
theorem lookup_zipIdx_ne {T : TyS} (g : Id → Option (Ent T)) {id : Id} (h : ∀ j, id ≠ .x j) : ∀ (L : List Id) (n : Nat), ((L.zipIdx n).map fun (p : Id × Nat) => (Id.x p.2, g p.1)).lookup id = none
 | [], n => by simp
 | i :: L, n => by
  simp only [List.zipIdx_cons, List.map_cons, List.lookup_cons]
  have : (id == Id.x n) = false := by simpa using h n
  simp only [this]
  exact lookup_zipIdx_ne g h L (n + 1)
theorem entOf_locX (L : List Id) (j : Nat) : entOf (locX σ L) (.x j) = (L[j]?).bind fun i => (σ.ent i).map (Ent.ren (toX L)) := by
 unfold entOf locX
 have := lookup_zipIdx (fun i => (σ.ent i).map (Ent.ren (toX L))) L 0 j
 simp only [Nat.sub_zero, Nat.zero_le, if_true] at this
 rw [this]
 cases L[j]? <;> rfl
theorem entOf_locX_ne (L : List Id) {id : Id} (h : ∀ j, id ≠ .x j) : entOf (locX σ L) id = none := by
 unfold entOf locX
 rw [lookup_zipIdx_ne (fun i => (σ.ent i).map (Ent.ren (toX L))) h L 0]
 rfl
theorem okL_spec {ds : List (D S.toTyS)} {L : List Id} (h : okL σ ds L = true) :
 (∀ d ∈ ds, ∀ i ∈ d.ids, i ∈ L) ∧ (∀ i ∈ L, ∃ e, σ.ent i = some e ∧ e.ro = false ∧ ∀ j ∈ e.ids, j ∈ L) ∧ L.Nodup := by
 simp only [okL, Bool.and_eq_true, List.all_eq_true, decide_eq_true_eq] at h
 obtain ⟨⟨h1, h2⟩, h3⟩ := h
 refine ⟨fun d hd i hi => by simpa using h1 d hd i hi, fun i hi => ?_, h3⟩
 have := h2 i hi
 split at this
 · rename_i e he
   simp only [Bool.and_eq_true, List.all_eq_true] at this
   exact ⟨e, he, by simpa using this.1, fun j hj => by simpa using this.2 j hj⟩
 · cases this
theorem mem_locX {ds : List (D S.toTyS)} {L : List Id} (h : okL σ ds L = true) (m : Mem S fid w ok ρ σ.ent) : Mem S fid w ok (rhoX L ρ) (entOf (locX σ L)) := by
 obtain ⟨h1, h2, h3⟩ := okL_spec h
 have hren : ∀ id i, toX L id = some i → rhoX L ρ i = ρ id ∨ rhoX L ρ i = .dead := fun id i hi => by
  obtain ⟨j, rfl, hj⟩ := toX_spec hi
  exact .inl (by simp [rhoX, hj])
 refine ⟨fun id e he => ?_, fun id he => ?_, fun i j b n s n' s' hi hj => ?_, fun id e b n s he hr hb => ?_, m.okl⟩
 · cases id with
   | x j =>
    rw [entOf_locX] at he
    cases hj : L[j]? with
    | none => rw [hj] at he; cases he
    | some i =>
     rw [hj] at he
     simp only [Option.bind_some, Option.map_eq_some_iff] at he
     obtain ⟨e', he', rfl⟩ := he
     have : rhoX L ρ (.x j) = ρ i := by simp [rhoX, hj]
     rw [this]
     exact (m.live i e' he').ren fun id i' _ hi' => hren id i' hi'
   | s n => rw [entOf_locX_ne L (by intro j h; cases h)] at he; cases he
   | sub i n => rw [entOf_locX_ne L (by intro j h; cases h)] at he; cases he
 · cases id with
   | x j =>
    rw [entOf_locX] at he
    cases hj : L[j]? with
    | none => simp [rhoX, hj]
    | some i =>
     rw [hj] at he
     obtain ⟨e, h4, _⟩ := h2 i (List.mem_of_getElem? hj)
     simp [h4] at he
   | s n => rfl
   | sub i n => rfl
 · cases i <;> cases j <;> simp [rhoX] at hi hj
   rename_i i j
   cases h4 : L[i]? with
   | none => simp [h4] at hi
   | some id1 =>
    cases h5 : L[j]? with
    | none => simp [h5] at hj
    | some id2 =>
     simp [h4] at hi
     simp [h5] at hj
     have e := m.inj id1 id2 b n s n' s' hi hj
     subst e
     have h6 := (List.getElem?_eq_some_iff.1 h4).1
     have := (List.getElem?_inj h6 h3).1 (h4.trans h5.symm)
     rw [this]
 · cases id with
   | x j =>
    rw [entOf_locX] at he
    cases hj : L[j]? with
    | none => rw [hj] at he; cases he
    | some i =>
     rw [hj] at he
     simp only [Option.bind_some, Option.map_eq_some_iff] at he
     obtain ⟨e', he', rfl⟩ := he
     simp [rhoX, hj] at hb
     rw [Ent.ren_ro] at hr
     exact m.excl i e' b n s he' hr hb
   | s n => cases hb
   | sub i n => cases hb
theorem mem_toX {L : List Id} {id : Id} (h : id ∈ L) : ∃ j, toX L id = some (.x j) ∧ L[j]? = some id := by
 cases hj : L.idxOf? id with
 | none => rw [List.idxOf?_eq_none_iff] at hj; exact absurd h hj
 | some j =>
  have ht : toX L id = some (.x j) := by simp [toX, hj]
  obtain ⟨k, h1, h2⟩ := toX_spec ht
  cases h1
  exact ⟨j, ht, h2⟩
theorem lookup_append {α β : Type} [BEq α] (l1 l2 : List (α × β)) (k : α) : (l1 ++ l2).lookup k = (l1.lookup k).or (l2.lookup k) := by
 induction l1 with
 | nil => simp
 | cons p l ih =>
  obtain ⟨a, b⟩ := p
  simp only [List.cons_append, List.lookup_cons]
  split <;> simp [ih]
theorem lookup_filterMap {α β γ : Type} [DecidableEq α] (g : α → Option α) (h : β → γ) (t k0 : α) : ∀ (l : List (α × β)), (∀ p ∈ l, g p.1 = some t ↔ p.1 = k0) →
 (l.filterMap fun p => (g p.1).map fun i => (i, h p.2)).lookup t = (l.lookup k0).map h
 | [], _ => rfl
 | (a, b) :: l, hp => by
  have ih := lookup_filterMap g h t k0 l (fun p hp' => hp p (List.mem_cons_of_mem _ hp'))
  have h1 := hp (a, b) List.mem_cons_self
  simp only [List.filterMap_cons, List.lookup_cons]
  by_cases e : a = k0
  · have := h1.2 e
    simp only at this
    subst e
    simp [this]
  · have hne : (k0 == a) = false := by simpa using fun e' => e e'.symm
    simp only [hne]
    cases hg : g a with
    | none => simpa using ih
    | some i =>
     have hit : i ≠ t := fun e' => e (h1.1 (by simp [hg, e']))
     have : (t == i) = false := by simpa using fun e' => hit e'.symm
     simp only [Option.map_some, List.lookup_cons, this]
     exact ih
theorem lookup_filterMap_none {α β γ : Type} [DecidableEq α] (g : α → Option α) (h : β → γ) (t : α) : ∀ (l : List (α × β)), (∀ p ∈ l, g p.1 ≠ some t) →
 (l.filterMap fun p => (g p.1).map fun i => (i, h p.2)).lookup t = none
 | [], _ => rfl
 | (a, b) :: l, hp => by
  have ih := lookup_filterMap_none g h t l (fun p hp' => hp p (List.mem_cons_of_mem _ hp'))
  have h1 := hp (a, b) List.mem_cons_self
  simp only [List.filterMap_cons]
  cases hg : g a with
  | none => simpa using ih
  | some i =>
   have : (t == i) = false := by simpa using fun e' => h1 (by simp [hg, e'])
   simp only [Option.map_some, List.lookup_cons, this]
   exact ih
theorem lookup_none_mem {β : Type} (L : List Id) (b : β) (id : Id) : (L.map (fun i => (i, b))).lookup id = if id ∈ L then some b else none := by
 induction L with
 | nil => simp
 | cons i L ih =>
  simp only [List.map_cons, List.lookup_cons]
  by_cases e : id = i
  · subst e; simp
  · have : (id == i) = false := by simpa using e
    simp only [this, ih, List.mem_cons, e, false_or]
section after
variable {L : List Id} {k : Nat} {loc : List (Id × Option (Ent S.toTyS))}
theorem fromX_cases {t : Id} {j : Nat} (h : fromX L k loc (.x j) = some t) : (L[j]? = some t) ∨ (L.length ≤ j ∧ t = .sub (.s k) (j - L.length) ∧ (entOf loc (.x j)).isSome = true) := by
 simp only [fromX] at h
 cases hj : L[j]? with
 | some i => rw [hj] at h; cases h; exact .inl rfl
 | none =>
  rw [hj] at h
  simp only at h
  split at h
  · cases h; exact .inr ⟨by simpa using hj, rfl, by assumption⟩
  · cases h
theorem entOf_mem {id : Id} {e : Ent S.toTyS} (h : entOf loc id = some e) : (id, some e) ∈ loc := by
 unfold entOf at h
 cases hl : loc.lookup id with
 | none => simp [hl] at h
 | some o => simp [hl] at h; subst h; exact lookup_mem hl
variable (hnew : okNew σ L k loc = true)
include hnew
theorem okNew_keys : ∀ p ∈ loc, ∃ j, p.1 = .x j ∧ (j < L.length ∨ σ.fresh (.sub (.s k) (j - L.length)) = true) := by
 intro p hp
 simp only [okNew, List.all_eq_true] at hnew
 have := hnew p hp
 split at this
 · rename_i j hj
   simp only [Bool.or_eq_true, decide_eq_true_eq] at this
   exact ⟨j, hj, this⟩
 · cases this
theorem after_old {j : Nat} {id : Id} (hj : L[j]? = some id) (hnd : L.Nodup) (hlive : ∀ i ∈ L, (σ.ent i).isSome = true) :
 (σ.after L k loc).ent id = (entOf loc (.x j)).map (Ent.ren (fromX L k loc)) := by
 have hmem := List.mem_of_getElem? hj
 unfold St.ent St.after
 simp only [List.append_assoc, lookup_append, lookup_none_mem, hmem, if_true]
 rw [lookup_filterMap (fromX L k loc) (fun o => o.map (Ent.ren (fromX L k loc))) id (.x j) loc (fun p hp => ?_)]
 · unfold entOf
   cases loc.lookup (Id.x j) with
   | none => simp
   | some o => simp
 · obtain ⟨i, hi, hf⟩ := okNew_keys hnew p hp
   rw [hi]
   constructor
   · intro h
     rcases fromX_cases h with h1 | ⟨h1, h2, h3⟩
     · have := (List.getElem?_inj (List.getElem?_eq_some_iff.1 h1).1 hnd).1 (h1.trans hj.symm)
       rw [this]
     · rcases hf with h4 | h4
       · omega
       · have := hlive id hmem
         rw [h2, St.fresh_none h4] at this
         cases this
   · rintro h
     cases h
     simp [fromX, hj]
theorem after_new {j : Nat} (hj : L.length ≤ j) (hs : (entOf loc (.x j)).isSome = true) (hlive : ∀ i ∈ L, (σ.ent i).isSome = true) :
 σ.fresh (.sub (.s k) (j - L.length)) = true ∧ (σ.after L k loc).ent (.sub (.s k) (j - L.length)) = (entOf loc (.x j)).map (Ent.ren (fromX L k loc)) := by
 obtain ⟨e, he⟩ := Option.isSome_iff_exists.1 hs
 obtain ⟨i, hi, hf⟩ := okNew_keys hnew _ (entOf_mem he)
 cases hi
 have hfresh := hf.resolve_left (by omega)
 have hnm : Id.sub (.s k) (j - L.length) ∉ L := fun h => by
  have := hlive _ h
  rw [St.fresh_none hfresh] at this
  cases this
 refine ⟨hfresh, ?_⟩
 unfold St.ent St.after
 simp only [List.append_assoc, lookup_append, lookup_none_mem, hnm, if_false, Option.none_or]
 rw [lookup_filterMap (fromX L k loc) (fun o => o.map (Ent.ren (fromX L k loc))) _ (.x j) loc (fun p hp => ?_)]
 · unfold entOf at he ⊢
   cases hl : loc.lookup (Id.x j) with
   | none => simp [hl] at he
   | some o => simp
 · obtain ⟨i, hi, hf⟩ := okNew_keys hnew p hp
   rw [hi]
   constructor
   · intro h
     rcases fromX_cases h with h1 | ⟨h1, h2, h3⟩
     · exact absurd (List.mem_of_getElem? h1) hnm
     · simp only [Id.sub.injEq, true_and] at h2
       have : i = j := by omega
       rw [this]
   · rintro h
     cases h
     have : L[j]? = none := by simpa using hj
     simp [fromX, this, hs]
theorem after_other {id : Id} (h1 : id ∉ L) (h2 : ∀ j, L.length ≤ j → (entOf loc (.x j)).isSome = true → id ≠ .sub (.s k) (j - L.length)) : (σ.after L k loc).ent id = σ.ent id := by
 unfold St.ent St.after
 simp only [List.append_assoc, lookup_append, lookup_none_mem, h1, if_false, Option.none_or]
 rw [lookup_filterMap_none (fromX L k loc) (fun o => o.map (Ent.ren (fromX L k loc))) id loc (fun p hp => ?_)]
 · simp
 · intro h
   obtain ⟨i, hi, _⟩ := okNew_keys hnew p hp
   rw [hi] at h
   rcases fromX_cases h with h3 | ⟨h3, h4, h5⟩
   · exact h1 (List.mem_of_getElem? h3)
   · exact h2 i h3 h5 h4
end after
def rhoA (L : List Id) (k : Nat) (loc : List (Id × Option (Ent S.toTyS))) (ρ ρ' : Id → Where) (id : Id) : Where :=
 match toX L id with
 | some i => ρ' i
 | none => match id with
  | .sub (.s k') n => if k' = k ∧ (entOf loc (.x (L.length + n))).isSome = true then ρ' (.x (L.length + n)) else ρ id
  | _ => ρ id
section
variable {L : List Id} {k : Nat} {loc : List (Id × Option (Ent S.toTyS))} {ρ' : Id → Where}
theorem rhoA_old {j : Nat} {id : Id} (hnd : L.Nodup) (hj : L[j]? = some id) : rhoA L k loc ρ ρ' id = ρ' (.x j) := by
 obtain ⟨i, h1, h2⟩ := mem_toX (List.mem_of_getElem? hj)
 have : i = j := (List.getElem?_inj (List.getElem?_eq_some_iff.1 h2).1 hnd).1 (h2.trans hj.symm)
 subst this
 simp [rhoA, h1]
theorem toX_none {id : Id} (h : id ∉ L) : toX L id = none := by
 cases ht : toX L id with
 | none => rfl
 | some i => obtain ⟨j, _, hj⟩ := toX_spec ht; exact absurd (List.mem_of_getElem? hj) h
theorem rhoA_new {j : Nat} (hj : L.length ≤ j) (hs : (entOf loc (.x j)).isSome = true) (hn : Id.sub (.s k) (j - L.length) ∉ L) : rhoA L k loc ρ ρ' (.sub (.s k) (j - L.length)) = ρ' (.x j) := by
 have e : L.length + (j - L.length) = j := by omega
 simp [rhoA, toX_none hn, e, hs]
theorem rhoA_other {id : Id} (h1 : id ∉ L) (h2 : ∀ j, L.length ≤ j → (entOf loc (.x j)).isSome = true → id ≠ .sub (.s k) (j - L.length)) : rhoA L k loc ρ ρ' id = ρ id := by
 unfold rhoA
 rw [toX_none h1]
 simp only
 split
 · rename_i k' n
   rw [if_neg]
   rintro ⟨rfl, h3⟩
   exact h2 (L.length + n) (by omega) h3 (by simp)
 · rfl
end
theorem snd_vcCallL {f : Nat} {k : Nat} {ds : List (D S.toTyS)} {L : List Id} (hT : ∀ i ∈ L, T i) {vals : Array Value} (g : Gam S fid X σ a w ok ρ) (hl : vals.size = ds.length)
 (hr : ∀ (i : Nat) v d, vals[i]? = some v → ds[i]? = some d → DRel S fid w ok ρ v d) (hk : vcCallL (Spec S P fid) σ k f ds L K)
 (hx : (execOp a.eval o).run P w = (callFunc (fid f) vals).run P w) (hn : Owes S fid X a o next K w ok ρ T) : o.wp P a w next Q := by
 obtain ⟨hL, ⟨fn, hfn, hbody, hname⟩, hspec⟩ := chk_iff.1 hk
 obtain ⟨h1, h2, h3⟩ := okL_spec hL
 have hlive : ∀ i ∈ L, (σ.ent i).isSome = true := fun i hi => by obtain ⟨e, he, _⟩ := h2 i hi; rw [he]; rfl
 have hcalls := hspec w vals ok (rhoX L ρ) (by simpa using hl) (fun i v d hv hd => by
  simp only [List.getElem?_map, Option.map_eq_some_iff] at hd
  obtain ⟨d', hd', rfl⟩ := hd
  exact (hr i v d' hv hd').ren fun id i' hi hi' => by
   obtain ⟨j, rfl, hj⟩ := toX_spec hi'
   exact .inl (by simp [rhoX, hj])) (mem_locX hL g.mem) (fun b hb => ⟨(g.gl b hb).1, fun id n s h => by
  cases id <;> simp [rhoX] at h
  rename_i j
  cases hj : L[j]? with
  | none => simp [hj] at h
  | some i => simp [hj] at h; exact (g.gl b hb).2.1 i n s h, (g.gl b hb).2.2⟩)
 have hent : (callFunc (fid f) vals).run P w = .ok (.enter (fid f) vals) w := by
  have hb : fn.body.isNone = false := by cases hfb : fn.body <;> simp_all
  simp only [callFunc, Sem.run_bind, run_program, Result.andThen_ok, hfn, hname, Bool.false_eq_true, if_false, hb, Sem.run_pure]
 unfold Oper.wp
 rw [hx, hent, Oper.upon_enter]
 refine hcalls.mono ?_
 rintro e w' ⟨v, r, loc, ok', ρ', rfl, hnK, hd, hm, hok1, hok2, hst, hown, hos, htape, hout, hsz, hfr⟩
 obtain ⟨hnew, hK⟩ := chk_iff.1 hnK
 simp only
 have hcase : ∀ id : Id, (∃ j : Nat, L[j]? = some id) ∨ (∃ j : Nat, L.length ≤ j ∧ (entOf loc (.x j)).isSome = true ∧ id = .sub (.s k) (j - L.length) ∧ id ∉ L) ∨
  (id ∉ L ∧ ∀ j : Nat, L.length ≤ j → (entOf loc (.x j)).isSome = true → id ≠ .sub (.s k) (j - L.length)) := by
  intro id
  by_cases hi : id ∈ L
  · obtain ⟨j, hj, rfl⟩ := List.mem_iff_getElem.1 hi
    exact .inl ⟨j, List.getElem?_eq_getElem hj⟩
  · by_cases hj : ∃ j, L.length ≤ j ∧ (entOf loc (.x j)).isSome = true ∧ id = .sub (.s k) (j - L.length)
    · obtain ⟨j, e1, e2, e3⟩ := hj
      exact .inr (.inl ⟨j, e1, e2, e3, hi⟩)
    · exact .inr (.inr ⟨hi, fun j e1 e2 e3 => hj ⟨j, e1, e2, e3⟩⟩)
 have hA : ∀ {j : Nat} {id : Id}, L[j]? = some id → rhoA L k loc ρ ρ' id = ρ' (.x j) := fun hj => rhoA_old h3 hj
 have hsame : ∀ b, ok b → w'.heap[b]? = w.heap[b]? := fun b hb => hfr b (g.mem.okl b hb) (fun id n s h => by
  cases id <;> simp [rhoX] at h
  rename_i j
  cases hj : L[j]? with
  | none => simp [hj] at h
  | some i =>
   simp [hj] at h
   obtain ⟨e, he, hro, _⟩ := h2 i (List.mem_of_getElem? hj)
   exact g.mem.excl i e b n s he hro h hb)
 have hX : ∀ {id b n s}, rhoX L ρ id = .blk b n s → ∃ i ∈ L, ρ i = .blk b n s := fun {id b n s} h => by
  cases id <;> simp [rhoX] at h
  rename_i j
  cases hj : L[j]? with
  | none => simp [hj] at h
  | some i => simp [hj] at h; exact ⟨i, List.mem_of_getElem? hj, h⟩
 have hstay : ∀ ids, (∀ id ∈ ids, ∀ j, L.length ≤ j → (entOf loc (.x j)).isSome = true → id ≠ .sub (.s k) (j - L.length)) → Stays ids ρ (rhoA L k loc ρ ρ') := by
  intro ids hids id hid
  rcases hcase id with ⟨j, hj⟩ | ⟨j, e1, e2, e3, _⟩ | ⟨e1, e2⟩
  · rw [hA hj]
    have := hst (.x j) (by
     rw [entOf_locX, hj]
     obtain ⟨e, he, _⟩ := h2 id (List.mem_of_getElem? hj)
     simp [he])
    simpa [rhoX, hj] using this
  · exact absurd e3 (hids id hid j e1 e2)
  · exact .inl (rhoA_other e1 e2)
 have hfresh : ∀ j, L.length ≤ j → (entOf loc (.x j)).isSome = true → σ.fresh (.sub (.s k) (j - L.length)) = true := fun j e1 e2 => (after_new hnew e1 e2 hlive).1
 have hback : ∀ id i, fromX L k loc id = some i → rhoA L k loc ρ ρ' i = ρ' id := by
  intro id i h
  cases id with
  | x j =>
   rcases fromX_cases h with h4 | ⟨h4, rfl, h6⟩
   · exact hA h4
   · exact rhoA_new h4 h6 (fun hm' => by
      have := hlive _ hm'
      rw [St.fresh_none (hfresh j h4 h6)] at this
      cases this)
  | s n => cases h
  | sub i n => cases h
 have hother : ∀ id b n s, id ∉ L → ρ id = .blk b n s → w'.heap[b]? = w.heap[b]? := fun id b n s hi hb => hfr b (g.mem.lt hb) (fun i' n' s' h => by
  obtain ⟨i, hi', h4⟩ := hX h
  have := g.mem.inj _ _ _ _ _ _ _ hb h4
  exact hi (this ▸ hi'))
 have hblk : ∀ {id b n s}, rhoA L k loc ρ ρ' id = .blk b n s → (∃ i, rhoA L k loc ρ ρ' id = ρ' i ∧ ((∃ j : Nat, L[j]? = some id ∧ i = .x j) ∨ (∃ j : Nat, L.length ≤ j ∧ (entOf loc (.x j)).isSome = true ∧ id = .sub (.s k) (j - L.length) ∧ i = .x j))) ∨ (id ∉ L ∧ ρ id = .blk b n s ∧ (σ.after L k loc).ent id = σ.ent id) := by
  intro id b n s h
  rcases hcase id with ⟨j, hj⟩ | ⟨j, e1, e2, e3, e4⟩ | ⟨e1, e2⟩
  · exact .inl ⟨.x j, hA hj, .inl ⟨j, hj, rfl⟩⟩
  · subst e3
    exact .inl ⟨.x j, rhoA_new e1 e2 e4, .inr ⟨j, e1, e2, rfl, rfl⟩⟩
  · rw [rhoA_other e1 e2] at h
    exact .inr ⟨e1, h, after_other hnew e1 e2⟩
 have hin : ∀ {i b n s}, ρ' i = .blk b n s → w.heap.size ≤ b ∨ ∃ i0 ∈ L, ∃ n0 s0, ρ i0 = .blk b n0 s0 := fun {i b n s} h => by
  rcases hown i b n s h with h4 | ⟨i0, n0, s0, h4⟩
  · exact .inl h4
  · obtain ⟨i1, h5, h6⟩ := hX h4
    exact .inr ⟨i1, h5, n0, s0, h6⟩
 have hmix : ∀ {i b n s id n' s'}, ρ' i = .blk b n s → id ∉ L → ρ id = .blk b n' s' → False := fun {i b n s id n' s'} h4 h5 h6 => by
  rcases hin h4 with h7 | ⟨i0, h7, n0, s0, h8⟩
  · exact absurd (g.mem.lt h6) (by omega)
  · exact h5 (g.mem.inj _ _ _ _ _ _ _ h6 h8 ▸ h7)
 have gnew : Gam S fid X (σ.after L k loc) a w' ok' (rhoA L k loc ρ ρ') := by
  refine ⟨g.defers, g.size, fun kk => ?_, ⟨fun id e he => ?_, fun id he => ?_, fun i j b n s n' s' hi hj => ?_, fun id e b n s he hro hb => ?_, hm.okl⟩, fun b hb => ?_, fun id b n s hb => ?_, ⟨hos.trans g.fr.os, htape.trans g.fr.tape, hout.trans g.fr.output, Nat.le_trans g.fr.size hsz, fun b hb ho => ?_⟩, fun b hb => hok2 b (g.okm b hb), fun j => ?_⟩
  · exact (g.env kk).mono hsame hok2 (hstay _ fun id hid j e1 e2 e3 => St.fresh_get (hfresh j e1 e2) kk (e3 ▸ hid))
  · rcases hcase id with ⟨j, hj⟩ | ⟨j, e1, e2, e3, e4⟩ | ⟨e1, e2⟩
    · rw [after_old hnew hj h3 hlive, Option.map_eq_some_iff] at he
      obtain ⟨e', he', rfl⟩ := he
      rw [hA hj]
      exact (hm.live _ e' he').ren fun id i _ hi => .inl (hback id i hi)
    · subst e3
      rw [(after_new hnew e1 e2 hlive).2, Option.map_eq_some_iff] at he
      obtain ⟨e', he', rfl⟩ := he
      rw [rhoA_new e1 e2 e4]
      exact (hm.live _ e' he').ren fun id i _ hi => .inl (hback id i hi)
    · rw [after_other hnew e1 e2] at he
      rw [rhoA_other e1 e2]
      exact (g.mem.live id e he).mono hsame hok2 (hstay _ fun id' hid' j e3 e4 e5 => St.fresh_ent (hfresh j e3 e4) he (e5 ▸ hid')) (fun b n s hb => hother id b n s e1 hb)
  · rcases hcase id with ⟨j, hj⟩ | ⟨j, e1, e2, e3, e4⟩ | ⟨e1, e2⟩
    · rw [after_old hnew hj h3 hlive, Option.map_eq_none_iff] at he
      rw [hA hj]
      exact hm.gone _ he
    · subst e3
      rw [(after_new hnew e1 e2 hlive).2, Option.map_eq_none_iff] at he
      rw [he] at e2
      cases e2
    · rw [after_other hnew e1 e2] at he
      rw [rhoA_other e1 e2]
      exact g.mem.gone id he
  · rcases hblk hi with ⟨i1, h4, h5⟩ | ⟨h4, h5, _⟩ <;> rcases hblk hj with ⟨j1, h6, h7⟩ | ⟨h6, h7, _⟩
    · rw [h4] at hi
      rw [h6] at hj
      have := hm.inj _ _ _ _ _ _ _ hi hj
      subst this
      rcases h5 with ⟨q, h8, h9⟩ | ⟨q, h8, h9, h10, h11⟩ <;> rcases h7 with ⟨q', h12, h13⟩ | ⟨q', h12, h13, h14, h15⟩
      · rw [h9] at h13; cases h13; rw [h8] at h12; exact Option.some.inj h12
      · rw [h9] at h15; cases h15; have := (List.getElem?_eq_some_iff.1 h8).1; omega
      · rw [h11] at h13; cases h13; have := (List.getElem?_eq_some_iff.1 h12).1; omega
      · rw [h11] at h15; cases h15; rw [h10, h14]
    · rw [h4] at hi; exact (hmix hi h6 h7).elim
    · rw [h6] at hj; exact (hmix hj h4 h5).elim
    · exact g.mem.inj _ _ _ _ _ _ _ h5 h7
  · rcases hblk hb with ⟨i1, h4, h5⟩ | ⟨h4, h5, h6⟩
    · rw [h4] at hb
      rcases h5 with ⟨q, h8, rfl⟩ | ⟨q, h8, h9, rfl, rfl⟩
      · rw [after_old hnew h8 h3 hlive, Option.map_eq_some_iff] at he
        obtain ⟨e', he', rfl⟩ := he
        rw [Ent.ren_ro] at hro
        exact hm.excl _ e' b n s he' hro hb
      · rw [(after_new hnew h8 h9 hlive).2, Option.map_eq_some_iff] at he
        obtain ⟨e', he', rfl⟩ := he
        rw [Ent.ren_ro] at hro
        exact hm.excl _ e' b n s he' hro hb
    · rw [h6] at he
      intro hb'
      rcases hok1 b hb' with h7 | h7 | ⟨i, n', s', h7⟩
      · exact g.mem.excl id e b n s he hro h5 h7
      · exact absurd (g.mem.lt h5) (by omega)
      · obtain ⟨i1, h8, h9⟩ := hX h7
        exact h4 (g.mem.inj _ _ _ _ _ _ _ h5 h9 ▸ h8)
  · rcases hok1 b hb with h4 | h4 | ⟨i, n, s, h4⟩
    · exact g.okf b h4
    · exact .inr (.inl (Nat.le_trans g.fr.size h4))
    · obtain ⟨i1, _, h6⟩ := hX h4
      rcases g.ownf i1 b n s h6 with h7 | h7
      · exact .inr (.inl h7)
      · exact .inr (.inr h7)
  · rcases hblk hb with ⟨i1, h4, h5⟩ | ⟨h4, h5, h6⟩
    · rw [h4] at hb
      rcases hin hb with h6 | ⟨i0, h6, n0, s0, h7⟩
      · exact .inl (Nat.le_trans g.fr.size h6)
      · exact g.ownf i0 b n0 s0 h7
    · exact g.ownf id b n s h5
  · rw [hfr b (Nat.lt_of_lt_of_le hb g.fr.size) (fun i n s h => ?_)]
    · exact g.fr.block b hb ho
    · obtain ⟨i1, _, h6⟩ := hX h
      rcases g.ownf i1 b n s h6 with h7 | h7
      · omega
      · exact ho h7
  · rcases hstay [Id.x j] (fun id hid j' _ _ e => by simp at hid; subst hid; cases e) (Id.x j) (by simp) with h4 | h4
    · rw [h4]; exact g.xst j
    · exact .inr h4
 refine hn _ _ _ _ _ _ hK gnew (hd.ren fun id i _ hi => .inl (hback id i hi)) ⟨hsz, fun b hb hno => hfr b hb (fun i n s h => ?_), hok2, fun id b n s hid hb => ?_⟩
 · obtain ⟨i1, h5, h6⟩ := hX h
   rcases hno with h7 | h7
   · obtain ⟨e, he, hro, _⟩ := h2 i1 h5
     exact g.mem.excl i1 e b n s he hro h6 h7
   · exact h7 i1 n s (hT i1 h5) h6
 · rcases hcase id with ⟨j, hj⟩ | ⟨j, e1, e2, e3, _⟩ | ⟨e1, e2⟩
   · exact absurd (hT id (List.mem_of_getElem? hj)) hid
   · rw [e3, g.mem.gone _ (St.fresh_none (hfresh j e1 e2))] at hb; cases hb
   · rw [rhoA_other e1 e2]; exact hb
theorem snd_vcCall {f : Nat} {k : Nat} {ds : List (D S.toTyS)} (hT : ∀ i, T i) {vals : Array Value} (g : Gam S fid X σ a w ok ρ) (hl : vals.size = ds.length)
 (hr : ∀ (i : Nat) v d, vals[i]? = some v → ds[i]? = some d → DRel S fid w ok ρ v d) (hk : vcCall (Spec S P fid) σ k f ds K)
 (hx : (execOp a.eval o).run P w = (callFunc (fid f) vals).run P w) (hn : Owes S fid X a o next K w ok ρ T) : o.wp P a w next Q := by
 obtain ⟨L, hk⟩ := hk
 exact snd_vcCallL (fun i _ => hT i) g hl hr hk hx hn
theorem call_facts {f k : Nat} {ys : List (Opd S.toTyS)} (hc : chkI S P fid o.op (.call k f ys) = true) (g : Gam S fid X σ a w ok ρ) :
 ∃ vals : Array Value, vals.size = (ys.map σ.ev).length ∧ (∀ (i : Nat) v d, vals[i]? = some v → (ys.map σ.ev)[i]? = some d → DRel S fid w ok ρ v d) ∧ (execOp a.eval o).run P w = (callFunc (fid f) vals).run P w := by
 simp only [chkI] at hc
 split at hc
 case h_2 => cases hc
 case h_1 f' xs ts he =>
  simp only [Bool.and_eq_true, decide_eq_true_eq] at hc
  obtain ⟨rfl, h1⟩ := hc
  obtain ⟨hl, hr⟩ := okOpds_map h1 g
  refine ⟨xs.map a.eval, by simpa using hl, fun i v d hv hd => hr i v d (by simpa using hv) hd, ?_⟩
  simp [execOp, he, resolve, Act.eval, Deferred.ofValue, invoke]
theorem callv_facts {k : Nat} {fx : Opd S.toTyS} {ys : List (Opd S.toTyS)} (hc : chkI S P fid o.op (.callv k fx ys) = true) (g : Gam S fid X σ a w ok ρ) {f : Nat} {caps : List Id} (hq : σ.ev fx = .c (.fn f caps))
 (hvar : (caps.all fun i => isVar (σ.ent i)) = true) :
 ∃ vals : Array Value, vals.size = (ys.map σ.ev ++ caps.map fun i => (.c (.ptr i 0 0) : D S.toTyS)).length ∧
  (∀ (i : Nat) v d, vals[i]? = some v → (ys.map σ.ev ++ caps.map fun i => (.c (.ptr i 0 0) : D S.toTyS))[i]? = some d → DRel S fid w ok ρ v d) ∧ (execOp a.eval o).run P w = (callFunc (fid f) vals).run P w := by
 simp only [chkI] at hc
 split at hc
 case h_2 => cases hc
 case h_1 f' xs ts he =>
  simp only [Bool.and_eq_true] at hc
  obtain ⟨h0, h1⟩ := hc
  have r1 := okOpd_rel h0 g
  obtain ⟨hl, hr⟩ := okOpds_map h1 g
  rw [hq] at r1
  obtain ⟨vs, hv, hvl, hvc⟩ := r1
  rw [List.all_eq_true] at hvar
  refine ⟨xs.map a.eval ++ vs, by simp only [Array.size_append, List.length_append, List.length_map] at hl ⊢; simp at hl ⊢; omega, fun i v d hv' hd => ?_, ?_⟩
  · rw [List.getElem?_append] at hd
    rw [Array.getElem?_append] at hv'
    have hle : (xs.map a.eval).size = (ys.map σ.ev).length := by simpa using hl
    rw [← hle] at hd
    split at hd
    · rename_i hi
      rw [if_pos hi] at hv'
      exact hr i v d (by simpa using hv') hd
    · rename_i hi
      rw [if_neg hi] at hv'
      simp only [List.getElem?_map, Option.map_eq_some_iff] at hd
      obtain ⟨id, hid, rfl⟩ := hd
      have hvid := hvar id (List.mem_of_getElem? hid)
      obtain ⟨cs, hen⟩ : ∃ cs, σ.ent id = some (.var cs) := by
       cases he' : σ.ent id with
       | none => rw [he'] at hvid; cases hvid
       | some e => cases e with
        | row _ _ _ => rw [he'] at hvid; cases hvid
        | var cs => exact ⟨cs, rfl⟩
        | tab _ _ _ => rw [he'] at hvid; cases hvid
        | map _ _ _ => rw [he'] at hvid; cases hvid
      have hm := g.mem.live id _ hen
      simp only [DRel, DRel1, CRel]
      cases hw : ρ id with
      | dead => rw [hw] at hm; exact hm.elim
      | empty => rw [hw] at hm; exact hm.elim
      | blk b n s =>
       have := hvc _ id b n s hid hw
       rw [this] at hv'
       cases hv'
       simp
  · simp [execOp, he, resolve, hv, Deferred.ofValue, invoke]
theorem next_none {fn : Func} {nm : String} (h1 : fn.name = nm) (h2 : fn.origin = "") (h3 : Extern.allNextRows.lookup nm = none) (h4 : Extern.allNextRows.lookup "" = none) : Extern.findNext fn = none := by
 simp [Extern.findNext, h1, h2, h3, h4]
theorem find_some {fn : Func} {nm : String} {e : Array Value → Sem Value} (h1 : fn.name = nm) (h2 : Extern.allGenericRows.lookup nm = none) (h3 : Extern.allTypedRows.lookup nm = none) (h4 : Extern.allRows.lookup nm = some e) : Extern.find fn = some e := by
 simp [Extern.find, h1, h2, h3, h4]
theorem isExt_spec {f : FuncId} {nm : String} (h : isExt P f nm = true) : ∃ fn, P.funcs[f]? = some fn ∧ fn.name = nm ∧ fn.origin = "" ∧ fn.body.isNone = true := by
 unfold isExt at h
 split at h
 · rename_i fn hf
   simp only [Bool.and_eq_true, decide_eq_true_eq] at h
   exact ⟨fn, hf, h.1.1, h.1.2, h.2⟩
 · cases h
theorem py_xcmp {x y : Opd S.toTyS} (hc : chkI S P fid o.op (.xcmp x y) = true) (g : Gam S fid X σ a w ok ρ) (hk : (IOp.xcmp x y).vc (Spec S P fid) σ K) : PY S fid P a w ok ρ o σ K := by
 simp only [chkI] at hc
 split at hc
 case h_2 => cases hc
 case h_1 f xs ts he =>
  simp only [Bool.and_eq_true] at hc
  obtain ⟨h0, h1⟩ := hc
  obtain ⟨fn, hf, hn, ho, hb⟩ := isExt_spec h0
  obtain ⟨hl, hr⟩ := okOpds_map h1 g
  simp only [IOp.vc] at hk
  split at hk
  case h_2 => exact hk.elim
  rename_i s1 s2 q1 q2
  simp only [List.length_map, List.length_cons, List.length_nil] at hl
  obtain ⟨x1, x2, hx⟩ : ∃ x1 x2, xs.toList = [x1, x2] := by
   match hxs : xs.toList, hl with
   | [x1, x2], _ => exact ⟨x1, x2, rfl⟩
   | [], h => simp [hxs] at hl
   | [_], h => simp [hxs] at hl
   | _ :: _ :: _ :: _, h => simp [hxs] at hl
  have e1 : a.eval x1 = .string s1 := by have := hr 0 (a.eval x1) (σ.ev x) (by simp [hx]) (by simp); rw [q1] at this; exact this
  have e2 : a.eval x2 = .string s2 := by have := hr 1 (a.eval x2) (σ.ev y) (by simp [hx]) (by simp); rw [q2] at this; exact this
  have hxe : xs = #[x1, x2] := by rw [← hx]
  refine PY.intro (v := .int .i64 (Lib.compareBytes s1.data.toList s2.data.toList)) (fun w' => ?_) hk rfl
  have := run_callFunc_extern hf (by rw [hn]; rfl) hb (next_none hn ho (by kernel_rfl) (by kernel_rfl)) (find_some (e := Extern.BytealgCompare.compare) hn (by kernel_rfl) (by kernel_rfl) (by kernel_rfl)) #[.string s1, .string s2] w'
  rw [Lib.run_compareString] at this
  simp only [Result.andThen] at this
  have hx' : (execOp a.eval o).run P w' = (callFunc f (xs.map a.eval)).run P w' := by simp [execOp, he, resolve, Act.eval, Deferred.ofValue, invoke]
  have hmap : xs.map a.eval = #[.string s1, .string s2] := by rw [hxe, ← e1, ← e2]; apply Array.toList_inj.1; simp
  rw [hx', hmap]
  exact this
theorem py_xidx {x y : Opd S.toTyS} (hc : chkI S P fid o.op (.xidx x y) = true) (g : Gam S fid X σ a w ok ρ) (hk : (IOp.xidx x y).vc (Spec S P fid) σ K) : PY S fid P a w ok ρ o σ K := by
 simp only [chkI] at hc
 split at hc
 case h_2 => cases hc
 case h_1 f xs ts he =>
  simp only [Bool.and_eq_true] at hc
  obtain ⟨h0, h1⟩ := hc
  obtain ⟨fn, hf, hn, ho, hb⟩ := isExt_spec h0
  obtain ⟨hl, hr⟩ := okOpds_map h1 g
  simp only [IOp.vc] at hk
  split at hk
  case h_2 => exact hk.elim
  rename_i s1 s2 q1 q2
  simp only [List.length_map, List.length_cons, List.length_nil] at hl
  obtain ⟨x1, x2, hx⟩ : ∃ x1 x2, xs.toList = [x1, x2] := by
   match hxs : xs.toList, hl with
   | [x1, x2], _ => exact ⟨x1, x2, rfl⟩
   | [], h => simp [hxs] at hl
   | [_], h => simp [hxs] at hl
   | _ :: _ :: _ :: _, h => simp [hxs] at hl
  have e1 : a.eval x1 = .string s1 := by have := hr 0 (a.eval x1) (σ.ev x) (by simp [hx]) (by simp); rw [q1] at this; exact this
  have e2 : a.eval x2 = .int .u8 s2 := by have := hr 1 (a.eval x2) (σ.ev y) (by simp [hx]) (by simp); rw [q2] at this; exact this
  have hxe : xs = #[x1, x2] := by rw [← hx]
  refine PY.intro (v := .int .i64 (firstIdx s1 s2.toNat.toUInt8)) (fun w' => ?_) hk rfl
  have := run_callFunc_extern hf (by rw [hn]; rfl) hb (next_none hn ho (by kernel_rfl) (by kernel_rfl)) (find_some (e := Extern.BytealgIndexByte.indexByte) hn (by kernel_rfl) (by kernel_rfl) (by kernel_rfl)) #[.string s1, .int .u8 s2] w'
  rw [run_indexByte_string] at this
  simp only [Result.andThen] at this
  have hx' : (execOp a.eval o).run P w' = (callFunc f (xs.map a.eval)).run P w' := by simp [execOp, he, resolve, Act.eval, Deferred.ofValue, invoke]
  have hmap : xs.map a.eval = #[.string s1, .int .u8 s2] := by rw [hxe, ← e1, ← e2]; apply Array.toList_inj.1; simp
  rw [hx', hmap]
  exact this
end Go.Clap
