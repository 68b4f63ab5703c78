/- The checks of the small code against the loaded functions. -/
import Derived.Test.YtnjgakngmbbmfaaGreatDoorClapCore
set_option linter.unusedVariables false
set_option linter.unusedSimpArgs false
namespace Go.Clap
structure St (T : TyS) where
 env : List (Nat × D T)
 loc : List (Id × Option (Ent T))
section
variable {T : TyS}
def St.get (σ : St T) (k : Nat) : D T := (σ.env.lookup k).getD .any
def St.ent (σ : St T) (id : Id) : Option (Ent T) := (σ.loc.lookup id).getD none
def St.set (σ : St T) (k : Nat) (d : D T) : St T := { σ with env := (k, d) :: σ.env }
def St.put (σ : St T) (id : Id) (e : Option (Ent T)) : St T := { σ with loc := (id, e) :: σ.loc }
def St.fresh (σ : St T) (id : Id) : Bool :=
 σ.env.all (fun p => !p.2.ids.contains id) && σ.loc.all (fun p => match p.2 with | some e => !e.ids.contains id | none => true) && (σ.ent id).isNone
theorem lookup_mem {α β : Type} [BEq α] [LawfulBEq α] {l : List (α × β)} {k : α} {v : β} (h : l.lookup k = some v) : (k, v) ∈ l := by
 induction l with
 | nil => simp at h
 | cons p l ih =>
  obtain ⟨a, b⟩ := p
  simp only [List.lookup_cons] at h
  split at h
  · rename_i e
    have := eq_of_beq e
    subst this
    cases h
    exact List.mem_cons_self
  · exact List.mem_cons_of_mem _ (ih h)
theorem St.get_set (σ : St T) (k j : Nat) (d : D T) : (σ.set k d).get j = if j = k then d else σ.get j := by
 unfold St.get St.set
 simp only [List.lookup_cons]
 by_cases h : j = k
 · subst h; simp
 · have : (j == k) = false := by simpa using h
   simp [h, this]
theorem St.ent_put (σ : St T) (i j : Id) (e : Option (Ent T)) : (σ.put i e).ent j = if j = i then e else σ.ent j := by
 unfold St.ent St.put
 simp only [List.lookup_cons]
 by_cases h : j = i
 · subst h; simp
 · have : (j == i) = false := by simpa using h
   simp [h, this]
theorem St.fresh_get {σ : St T} {id : Id} (h : σ.fresh id = true) (k : Nat) : id ∉ (σ.get k).ids := by
 unfold St.get
 cases hl : σ.env.lookup k with
 | none => simp [D.ids, D.ids1]
 | some d =>
  simp only [St.fresh, Bool.and_eq_true, List.all_eq_true] at h
  have := h.1.1 _ (lookup_mem hl)
  simpa using this
theorem St.fresh_ent {σ : St T} {id : Id} (h : σ.fresh id = true) {j : Id} {e : Ent T} (he : σ.ent j = some e) : id ∉ e.ids := by
 unfold St.ent at he
 cases hl : σ.loc.lookup j with
 | none => simp [hl] at he
 | some o =>
  simp only [hl, Option.getD_some] at he
  subst he
  simp only [St.fresh, Bool.and_eq_true, List.all_eq_true] at h
  have := h.1.2 _ (lookup_mem hl)
  simpa using this
theorem St.fresh_none {σ : St T} {id : Id} (h : σ.fresh id = true) : σ.ent id = none := by
 simp only [St.fresh, Bool.and_eq_true] at h
 simpa using h.2
end
structure Ctx (S : Sig) where
 n : Nat
 w0 : World
 ok0 : Nat → Prop
 own : Nat → Prop
 rho0 : Nat → Where
 hg : ∀ b ∈ S.glob, ok0 b ∧ ¬ own b ∧ b < w0.heap.size ∧ ∃ arr t fr, w0.heap[b]? = some (.cells arr t fr) ∧ S.gok b arr
structure Frm {S : Sig} (X : Ctx S) (w : World) : Prop where
 os : w.os = X.w0.os
 tape : w.tape = X.w0.tape
 output : w.output = X.w0.output
 size : X.w0.heap.size ≤ w.heap.size
 block : ∀ b, b < X.w0.heap.size → ¬ X.own b → w.heap[b]? = X.w0.heap[b]?
structure Gam (S : Sig) (fid : Nat → FuncId) (X : Ctx S) (σ : St S.toTyS) (a : Act) (w : World) (ok : Nat → Prop) (ρ : Id → Where) : Prop where
 defers : a.defers = []
 size : a.tmps.size = X.n
 env : ∀ k, DRel S fid w ok ρ (a.tmps.getD k undef) (σ.get k)
 mem : Mem S fid w ok ρ σ.ent
 okf : ∀ b, ok b → X.ok0 b ∨ X.w0.heap.size ≤ b ∨ X.own b
 ownf : ∀ id b n s, ρ id = .blk b n s → X.w0.heap.size ≤ b ∨ X.own b
 fr : Frm X w
 okm : ∀ b, X.ok0 b → ok b
 xst : ∀ j, ρ (.x j) = X.rho0 j ∨ ρ (.x j) = .dead
variable {S : Sig} {fid : Nat → FuncId} {X : Ctx S} {σ : St S.toTyS} {a : Act} {w : World} {ok : Nat → Prop} {ρ : Id → Where}
theorem Mem.lt {ent : Id → Option (Ent S.toTyS)} (h : Mem S fid w ok ρ ent) {id : Id} {b n s : Nat} (hb : ρ id = .blk b n s) : b < w.heap.size := by
 cases he : ent id with
 | none => rw [h.gone id he] at hb; cases hb
 | some e =>
  have := h.live id e he
  rw [hb] at this
  cases e with
  | row ro c xs => obtain ⟨_, arr, t, hh, _⟩ := this; exact (Array.getElem?_eq_some_iff.1 hh).1
  | var cs => obtain ⟨arr, t, hh, _⟩ := this; exact (Array.getElem?_eq_some_iff.1 hh).1
  | tab c rows cur => obtain ⟨_, arr, t, hh, _⟩ := this; exact (Array.getElem?_eq_some_iff.1 hh).1
  | map kc vc l => obtain ⟨es, ck, hh, _⟩ := this; exact (Array.getElem?_eq_some_iff.1 hh).1
theorem EntRel.mono {w' : World} {ok' : Nat → Prop} {ρ' : Id → Where} (hs : ∀ b, ok b → w'.heap[b]? = w.heap[b]?) (ho : ∀ b, ok b → ok' b)
 {wh : Where} {e : Ent S.toTyS} (hρ : Stays e.ids ρ ρ') (hb : ∀ b n s, wh = .blk b n s → w'.heap[b]? = w.heap[b]?) (h : EntRel S fid w ok ρ wh e) : EntRel S fid w' ok' ρ' wh e := by
 cases wh with
 | dead => exact h.elim
 | empty => cases e <;> exact h
 | blk b n s =>
  cases e with
  | row ro c xs =>
   obtain ⟨h1, arr, t, hh, h2, h3, h4⟩ := h
   refine ⟨h1, arr, t, by rw [hb b n s rfl]; exact hh, h2, h3, fun i x j d hx hd => ?_⟩
   obtain ⟨u, hu, hi⟩ := h4 i x j d hx hd
   exact ⟨u, hu, hi.mono hs ho⟩
  | var cs =>
   obtain ⟨arr, t, hh, h2, h3⟩ := h
   exact ⟨arr, t, by rw [hb b n s rfl]; exact hh, h2, h3.mono hs ho hρ⟩
  | tab c rows cur =>
   obtain ⟨h1, arr, t, hh, h2, h3, h4⟩ := h
   refine ⟨h1, arr, t, by rw [hb b n s rfl]; exact hh, h2, h3, fun j r hr => ?_⟩
   obtain ⟨u, hu, hi⟩ := h4 j r hr
   exact ⟨u, hu, hi.mono hs ho fun id hid => hρ id (tabC_ids hid)⟩
  | map kc vc l =>
   obtain ⟨es, ck, hh, h2, h3⟩ := h
   refine ⟨es, ck, by rw [hb b n s rfl]; exact hh, h2, fun i p hp => ?_⟩
   obtain ⟨h4, e, he, hk, hv⟩ := h3 i p hp
   exact ⟨h4, e, he, hk, fun d hd => (hv d hd).mono hs ho⟩
theorem Mem.keep {w' : World} {ent : Id → Option (Ent S.toTyS)} (h : Mem S fid w ok ρ ent) (hsz : w.heap.size ≤ w'.heap.size) (hb : ∀ b, b < w.heap.size → w'.heap[b]? = w.heap[b]?) : Mem S fid w' ok ρ ent where
 live id e he := (h.live id e he).mono (fun b hok => hb b (h.okl b hok)) (fun _ x => x) (.refl _ _) (fun b n s e' => hb b (h.lt e'))
 gone := h.gone
 inj := h.inj
 excl := h.excl
 okl b hok := Nat.lt_of_lt_of_le (h.okl b hok) hsz
theorem Gam.keep {w' : World} (h : Gam S fid X σ a w ok ρ) (hos : w'.os = w.os) (ht : w'.tape = w.tape) (hout : w'.output = w.output) (hsz : w.heap.size ≤ w'.heap.size)
 (hb : ∀ b, b < w.heap.size → w'.heap[b]? = w.heap[b]?) : Gam S fid X σ a w' ok ρ where
 defers := h.defers
 size := h.size
 env k := (h.env k).mono (fun b hok => hb b (h.mem.okl b hok)) (fun _ x => x) (.refl _ _)
 mem := h.mem.keep hsz hb
 okf := h.okf
 ownf := h.ownf
 fr := ⟨hos.trans h.fr.os, ht.trans h.fr.tape, hout.trans h.fr.output, Nat.le_trans h.fr.size hsz,
  fun b hb0 ho => (hb b (Nat.lt_of_lt_of_le hb0 h.fr.size)).trans (h.fr.block b hb0 ho)⟩
 okm := h.okm
 xst := h.xst
theorem Gam.drew (h : Gam S fid X σ a w ok ρ) : Gam S fid X σ a { w with drawn := w.drawn + 1 } ok ρ :=
 h.keep rfl rfl rfl (Nat.le_refl _) (fun _ _ => rfl)
theorem Gam.set (h : Gam S fid X σ a w ok ρ) {k : Nat} (hk : k < X.n) {v : Value} {d : D S.toTyS} (hv : DRel S fid w ok ρ v d) :
 Gam S fid X (σ.set k d) (a.put (some k) v) w ok ρ where
 defers := h.defers
 size := by simp [Act.put, h.size]
 env j := by
  rw [St.get_set]
  by_cases e : j = k
  · subst e
    have : ((a.put (some j) v).tmps.getD j undef) = v := by simp [Act.put, Array.getD_eq_getD_getElem?, h.size, hk]
    rw [this]; simpa using hv
  · have : ((a.put (some k) v).tmps.getD j undef) = a.tmps.getD j undef := by simp [Act.put, Array.getD_eq_getD_getElem?, Array.getElem?_setIfInBounds_ne (Ne.symm e)]
    rw [this]; simpa [e] using h.env j
 mem := h.mem
 okf := h.okf
 ownf := h.ownf
 fr := h.fr
 okm := h.okm
 xst := h.xst
def updW (ρ : Id → Where) (id : Id) (wh : Where) : Id → Where := fun j => if j = id then wh else ρ j
theorem updW_same (ρ : Id → Where) (id : Id) (wh : Where) : updW ρ id wh id = wh := by simp [updW]
theorem updW_ne {ρ : Id → Where} {id j : Id} {wh : Where} (h : j ≠ id) : updW ρ id wh j = ρ j := by simp [updW, h]
theorem updW_stays {ρ : Id → Where} {id : Id} {wh : Where} {ids : List Id} (h : id ∉ ids) : Stays ids ρ (updW ρ id wh) :=
 fun _ hj => .inl (updW_ne (fun e => h (e ▸ hj)))
theorem Gam.new (h : Gam S fid X σ a w ok ρ) {id : Id} (hx : ∀ j, id ≠ .x j) (hf : σ.fresh id = true) {arr : Array Value} {t : TypeId} {sz : Nat} {e : Ent S.toTyS} (hro : e.ro = false)
 (he : EntRel S fid (w.alloc (.cells arr t)) ok (updW ρ id (.blk w.heap.size arr.size sz)) (.blk w.heap.size arr.size sz) e) :
 Gam S fid X (σ.put id (some e)) a (w.alloc (.cells arr t)) ok (updW ρ id (.blk w.heap.size arr.size sz)) := by
 have hold : ∀ b, b < w.heap.size → (w.alloc (.cells arr t)).heap[b]? = w.heap[b]? := fun b hb => heap_alloc_old w _ b hb
 have hsz : (w.alloc (.cells arr t)).heap.size = w.heap.size + 1 := Array.size_push _
 have hk := h.keep (w' := w.alloc (.cells arr t)) rfl rfl rfl (by omega) hold
 refine ⟨h.defers, h.size, fun k => ?_, ⟨fun j e' hj => ?_, fun j hj => ?_, fun i j b n s n' s' hi hj => ?_, fun j e' b n s hj hr hb => ?_, hk.mem.okl⟩, h.okf, fun j b n s hb => ?_, hk.fr, h.okm, fun j => by rw [updW_ne (fun e => hx j e.symm)]; exact h.xst j⟩
 · exact (hk.env k).mono (fun _ _ => rfl) (fun _ x => x) (updW_stays (St.fresh_get hf k))
 · rw [St.ent_put] at hj
   by_cases hji : j = id
   · subst hji
     simp only [if_true, Option.some.injEq] at hj
     subst hj
     rw [updW_same]
     exact he
   · rw [if_neg hji] at hj
     rw [updW_ne hji]
     exact (hk.mem.live j e' hj).mono (fun _ _ => rfl) (fun _ x => x) (updW_stays (St.fresh_ent hf hj)) (fun _ _ _ _ => rfl)
 · rw [St.ent_put] at hj
   by_cases hji : j = id
   · subst hji; simp at hj
   · rw [if_neg hji] at hj
     rw [updW_ne hji]
     exact h.mem.gone j hj
 · by_cases h1 : i = id <;> by_cases h2 : j = id
   · rw [h1, h2]
   · subst h1
     rw [updW_same] at hi
     rw [updW_ne h2] at hj
     cases hi
     exact absurd (h.mem.lt hj) (Nat.lt_irrefl _)
   · subst h2
     rw [updW_same] at hj
     rw [updW_ne h1] at hi
     cases hj
     exact absurd (h.mem.lt hi) (Nat.lt_irrefl _)
   · rw [updW_ne h1] at hi
     rw [updW_ne h2] at hj
     exact h.mem.inj i j b n s n' s' hi hj
 · by_cases h1 : j = id
   · subst h1
     rw [updW_same] at hb
     cases hb
     intro hok
     exact Nat.lt_irrefl _ (h.mem.okl _ hok)
   · rw [updW_ne h1] at hb
     rw [St.ent_put, if_neg h1] at hj
     exact h.mem.excl j e' b n s hj hr hb
 · by_cases h1 : j = id
   · subst h1
     rw [updW_same] at hb
     cases hb
     exact .inl h.fr.size
   · rw [updW_ne h1] at hb
     exact h.ownf j b n s hb
theorem Gam.write (h : Gam S fid X σ a w ok ρ) {id : Id} {e e' : Ent S.toTyS} {b n sz : Nat} (hid : σ.ent id = some e) (hro : e.ro = false) (hb : ρ id = .blk b n sz)
 {arr arr' : Array Value} {t : TypeId} (hh : w.heap[b]? = some (.cells arr t (0, 0)))
 (he : EntRel S fid (w.setRow b arr') ok ρ (.blk b n sz) e') :
 Gam S fid X (σ.put id (some e')) a (w.setRow b arr') ok ρ := by
 have hok : ¬ ok b := h.mem.excl id e b n sz hid hro hb
 have hsz : (w.setRow b arr').heap.size = w.heap.size := by simp [World.setRow]
 have hoth : ∀ b', b' ≠ b → (w.setRow b arr').heap[b']? = w.heap[b']? := fun b' hne => by
  simp only [World.setRow, Array.getElem?_modify]
  rw [if_neg (by omega)]
 have hs : ∀ b', ok b' → (w.setRow b arr').heap[b']? = w.heap[b']? := fun b' hb' => hoth b' (fun e => hok (e ▸ hb'))
 refine ⟨h.defers, h.size, fun k => (h.env k).mono hs (fun _ x => x) (.refl _ _), ⟨fun j e1 hj => ?_, fun j hj => ?_, h.mem.inj, fun j e1 b1 n1 s1 hj hr hb1 => ?_, fun b' hb' => ?_⟩, h.okf, h.ownf, ⟨h.fr.os, h.fr.tape, h.fr.output, by rw [hsz]; exact h.fr.size, fun b' hb' ho => ?_⟩, h.okm, h.xst⟩
 · rw [St.ent_put] at hj
   by_cases hji : j = id
   · subst hji
     simp only [if_true, Option.some.injEq] at hj
     subst hj
     rw [hb]
     exact he
   · rw [if_neg hji] at hj
     exact (h.mem.live j e1 hj).mono hs (fun _ x => x) (.refl _ _) (fun b1 n1 s1 hb1 => hoth b1 (fun e => hji (h.mem.inj j id b1 n1 s1 n sz hb1 (e ▸ hb))))
 · rw [St.ent_put] at hj
   by_cases hji : j = id
   · subst hji; simp at hj
   · rw [if_neg hji] at hj; exact h.mem.gone j hj
 · rw [St.ent_put] at hj
   by_cases hji : j = id
   · subst hji; rw [hb] at hb1; cases hb1; exact hok
   · rw [if_neg hji] at hj; exact h.mem.excl j e1 b1 n1 s1 hj hr hb1
 · rw [hsz]; exact h.mem.okl b' hb'
 · rw [hoth b' (fun e => ?_)]
   · exact h.fr.block b' hb' ho
   · subst e
     rcases h.ownf id b' n sz hb with h1 | h1
     · omega
     · exact ho h1
theorem Gam.drop (h : Gam S fid X σ a w ok ρ) (id : Id) : Gam S fid X (σ.put id none) a w ok (updW ρ id .dead) := by
 have hst : ∀ ids, Stays ids ρ (updW ρ id .dead) := fun ids j _ => by
  by_cases e : j = id
  · subst e; exact .inr (updW_same _ _ _)
  · exact .inl (updW_ne e)
 have hin : ∀ {j b n s}, updW ρ id .dead j = .blk b n s → ρ j = .blk b n s := fun {j b n s} hb => by
  by_cases e : j = id
  · subst e; rw [updW_same] at hb; cases hb
  · rwa [updW_ne e] at hb
 refine ⟨h.defers, h.size, fun k => (h.env k).mono (fun _ _ => rfl) (fun _ x => x) (hst _), ⟨fun j e1 hj => ?_, fun j hj => ?_, fun i j b n s n' s' hi hj => h.mem.inj i j b n s n' s' (hin hi) (hin hj), fun j e1 b1 n1 s1 hj hr hb1 => ?_, h.mem.okl⟩, h.okf, fun j b n s hb => h.ownf j b n s (hin hb), h.fr, h.okm, fun j => by
  by_cases e : Id.x j = id
  · rw [e, updW_same]; exact .inr rfl
  · rw [updW_ne e]; exact h.xst j⟩
 · rw [St.ent_put] at hj
   by_cases hji : j = id
   · subst hji; simp at hj
   · rw [if_neg hji] at hj
     rw [updW_ne hji]
     exact (h.mem.live j e1 hj).mono (fun _ _ => rfl) (fun _ x => x) (hst _) (fun _ _ _ _ => rfl)
 · rw [St.ent_put] at hj
   by_cases hji : j = id
   · subst hji; exact updW_same _ _ _
   · rw [if_neg hji] at hj; rw [updW_ne hji]; exact h.mem.gone j hj
 · rw [St.ent_put] at hj
   by_cases hji : j = id
   · subst hji; simp at hj
   · rw [if_neg hji] at hj; exact h.mem.excl j e1 b1 n1 s1 hj hr (hin hb1)
theorem Gam.freeze (h : Gam S fid X σ a w ok ρ) {id : Id} {c : S.Ty} {xs : List (S.U c)} {ro : Bool} (hid : σ.ent id = some (.row ro c xs)) :
 Gam S fid X (σ.put id (some (.row true c xs))) a w (fun b => ok b ∨ ∃ n s, ρ id = .blk b n s) ρ := by
 have ho : ∀ b, ok b → (ok b ∨ ∃ n s, ρ id = .blk b n s) := fun b hb => .inl hb
 refine ⟨h.defers, h.size, fun k => (h.env k).mono (fun _ _ => rfl) ho (.refl _ _), ⟨fun j e1 hj => ?_, fun j hj => ?_, h.mem.inj, fun j e1 b1 n1 s1 hj hr hb1 => ?_, ?_⟩, ?_, h.ownf, h.fr, fun b hb => .inl (h.okm b hb), h.xst⟩
 · rw [St.ent_put] at hj
   by_cases hji : j = id
   · subst hji
     simp only [if_true, Option.some.injEq] at hj
     subst hj
     have := (h.mem.live j _ hid).mono (w' := w) (fun _ _ => rfl) ho (.refl _ _) (fun _ _ _ _ => rfl)
     cases hw : ρ j with
     | dead => rw [hw] at this; exact this
     | empty => rw [hw] at this; exact this
     | blk b n s => rw [hw] at this; exact this
   · rw [if_neg hji] at hj
     exact (h.mem.live j e1 hj).mono (fun _ _ => rfl) ho (.refl _ _) (fun _ _ _ _ => rfl)
 · rw [St.ent_put] at hj
   by_cases hji : j = id
   · subst hji; simp at hj
   · rw [if_neg hji] at hj; exact h.mem.gone j hj
 · rw [St.ent_put] at hj
   by_cases hji : j = id
   · subst hji
     simp only [if_true, Option.some.injEq] at hj
     subst hj
     simp [Ent.ro] at hr
   · rw [if_neg hji] at hj
     rintro (hok | ⟨n, s, hb⟩)
     · exact h.mem.excl j e1 b1 n1 s1 hj hr hb1 hok
     · exact hji (h.mem.inj j id b1 n1 s1 n s hb1 hb)
 · rintro b (hok | ⟨n, s, hb⟩)
   · exact h.mem.okl b hok
   · exact h.mem.lt hb
 · rintro b (hok | ⟨n, s, hb⟩)
   · exact h.okf b hok
   · rcases h.ownf id b n s hb with h1 | h1
     · exact .inr (.inl h1)
     · exact .inr (.inr h1)
theorem Gam.frozen_rel (h : Gam S fid X σ a w ok ρ) {id : Id} {c : S.Ty} {xs : List (S.U c)} {ro : Bool} (hid : σ.ent id = some (.row ro c xs))
 (hok : ∀ b n s, ρ id = .blk b n s → ok b) {v : Value} {off len : Nat} (hl : off + len ≤ xs.length) (hv : CRel S fid w ok ρ v (.osl id off len)) :
 CRel S fid w ok ρ v (.isl c ((xs.drop off).take len)) := by
 have he := h.mem.live id _ hid
 simp only [CRel] at hv ⊢
 have hlen : ((xs.drop off).take len).length = len := by simp; omega
 cases hw : ρ id with
 | dead => rw [hw] at he; exact he.elim
 | empty =>
  rw [hw] at hv he
  obtain ⟨rfl, rfl, rfl⟩ := hv
  have hi : ISl S w ok none 0 c ([] : List (S.U c)) := ⟨by simp, by simp, fun hne => absurd rfl hne⟩
  simpa using IRel.of_isl hi
 | blk b n sz =>
  rw [hw] at hv he
  obtain ⟨base, cap, rfl, h1, h2, h3⟩ := hv
  obtain ⟨rfl, arr, t, hh, h4, h5, h6⟩ := he
  have hi : ISl S w ok base cap c ((xs.drop off).take len) := by
   refine ⟨by omega, h2, fun hne => ?_⟩
   have hlp : 0 < len := by
    rcases Nat.eq_zero_or_pos len with e | e
    · subst e; simp at hne
    · exact e
   obtain ⟨rfl, h7⟩ := h3 (by omega)
   refine ⟨b, off * S.sz c, rfl, hok b n _ hw, fun i x j d hx hd => ?_⟩
   rw [List.getElem?_take] at hx
   split at hx
   · rw [List.getElem?_drop] at hx
     obtain ⟨u, hu, hi⟩ := h6 (off + i) x j d hx hd
     refine ⟨u, ?_, hi⟩
     have e : off * S.sz c + i * S.sz c + j = (off + i) * S.sz c + j := by rw [Nat.add_mul]
     simp [World.cell?, hh, e, hu]
   · cases hx
  have := IRel.of_isl hi
  rwa [hlen] at this
theorem Gam.newObj (h : Gam S fid X σ a w ok ρ) {id : Id} (hx : ∀ j, id ≠ .x j) (hf : σ.fresh id = true) {ob : Obj} {nn sz : Nat} {e : Ent S.toTyS} (hro : e.ro = false)
 (he : EntRel S fid (w.alloc ob) ok (updW ρ id (.blk w.heap.size nn sz)) (.blk w.heap.size nn sz) e) :
 Gam S fid X (σ.put id (some e)) a (w.alloc ob) ok (updW ρ id (.blk w.heap.size nn sz)) := by
 have hold : ∀ b, b < w.heap.size → (w.alloc ob).heap[b]? = w.heap[b]? := fun b hb => heap_alloc_old w _ b hb
 have hsz : (w.alloc ob).heap.size = w.heap.size + 1 := Array.size_push _
 have hk := h.keep (w' := w.alloc ob) rfl rfl rfl (by omega) hold
 refine ⟨h.defers, h.size, fun k => ?_, ⟨fun j e' hj => ?_, fun j hj => ?_, fun i j b n s n' s' hi hj => ?_, fun j e' b n s hj hr hb => ?_, hk.mem.okl⟩, h.okf, fun j b n s hb => ?_, hk.fr, h.okm, fun j => by rw [updW_ne (fun e => hx j e.symm)]; exact h.xst j⟩
 · exact (hk.env k).mono (fun _ _ => rfl) (fun _ x => x) (updW_stays (St.fresh_get hf k))
 · rw [St.ent_put] at hj
   by_cases hji : j = id
   · subst hji
     simp only [if_true, Option.some.injEq] at hj
     subst hj
     rw [updW_same]
     exact he
   · rw [if_neg hji] at hj
     rw [updW_ne hji]
     exact (hk.mem.live j e' hj).mono (fun _ _ => rfl) (fun _ x => x) (updW_stays (St.fresh_ent hf hj)) (fun _ _ _ _ => rfl)
 · rw [St.ent_put] at hj
   by_cases hji : j = id
   · subst hji; simp at hj
   · rw [if_neg hji] at hj
     rw [updW_ne hji]
     exact h.mem.gone j hj
 · by_cases h1 : i = id <;> by_cases h2 : j = id
   · rw [h1, h2]
   · subst h1
     rw [updW_same] at hi
     rw [updW_ne h2] at hj
     cases hi
     exact absurd (h.mem.lt hj) (Nat.lt_irrefl _)
   · subst h2
     rw [updW_same] at hj
     rw [updW_ne h1] at hi
     cases hj
     exact absurd (h.mem.lt hi) (Nat.lt_irrefl _)
   · rw [updW_ne h1] at hi
     rw [updW_ne h2] at hj
     exact h.mem.inj i j b n s n' s' hi hj
 · by_cases h1 : j = id
   · subst h1
     rw [updW_same] at hb
     cases hb
     intro hok
     exact Nat.lt_irrefl _ (h.mem.okl _ hok)
   · rw [updW_ne h1] at hb
     rw [St.ent_put, if_neg h1] at hj
     exact h.mem.excl j e' b n s hj hr hb
 · by_cases h1 : j = id
   · subst h1
     rw [updW_same] at hb
     cases hb
     exact .inl h.fr.size
   · rw [updW_ne h1] at hb
     exact h.ownf j b n s hb
theorem Gam.writeObj (h : Gam S fid X σ a w ok ρ) {id : Id} {e e' : Ent S.toTyS} {b n sz : Nat} (hid : σ.ent id = some e) (hro : e.ro = false) (hb : ρ id = .blk b n sz)
 {w' : World} (q1 : w'.os = w.os) (q2 : w'.tape = w.tape) (q3 : w'.output = w.output) (hsz : w'.heap.size = w.heap.size) (hoth : ∀ b', b' ≠ b → w'.heap[b']? = w.heap[b']?)
 (he : EntRel S fid w' ok ρ (.blk b n sz) e') :
 Gam S fid X (σ.put id (some e')) a w' ok ρ := by
 have hok : ¬ ok b := h.mem.excl id e b n sz hid hro hb
 have hs : ∀ b', ok b' → w'.heap[b']? = w.heap[b']? := fun b' hb' => hoth b' (fun e => hok (e ▸ hb'))
 refine ⟨h.defers, h.size, fun k => (h.env k).mono hs (fun _ x => x) (.refl _ _), ⟨fun j e1 hj => ?_, fun j hj => ?_, h.mem.inj, fun j e1 b1 n1 s1 hj hr hb1 => ?_, fun b' hb' => ?_⟩, h.okf, h.ownf, ⟨q1.trans h.fr.os, q2.trans h.fr.tape, q3.trans h.fr.output, by rw [hsz]; exact h.fr.size, fun b' hb' ho => ?_⟩, h.okm, h.xst⟩
 · rw [St.ent_put] at hj
   by_cases hji : j = id
   · subst hji
     simp only [if_true, Option.some.injEq] at hj
     subst hj
     rw [hb]
     exact he
   · rw [if_neg hji] at hj
     exact (h.mem.live j e1 hj).mono hs (fun _ x => x) (.refl _ _) (fun b1 n1 s1 hb1 => hoth b1 (fun e => hji (h.mem.inj j id b1 n1 s1 n sz hb1 (e ▸ hb))))
 · rw [St.ent_put] at hj
   by_cases hji : j = id
   · subst hji; simp at hj
   · rw [if_neg hji] at hj; exact h.mem.gone j hj
 · rw [St.ent_put] at hj
   by_cases hji : j = id
   · subst hji; rw [hb] at hb1; cases hb1; exact hok
   · rw [if_neg hji] at hj; exact h.mem.excl j e1 b1 n1 s1 hj hr hb1
 · rw [hsz]; exact h.mem.okl b' hb'
 · rw [hoth b' (fun e => ?_)]
   · exact h.fr.block b' hb' ho
   · subst e
     rcases h.ownf id b' n sz hb with h1 | h1
     · omega
     · exact ho h1
theorem Gam.gl (h : Gam S fid X σ a w ok ρ) : Gl S w ok ρ := fun b hb => by
 obtain ⟨h1, h2, h3, arr, t, fr, h4, h5⟩ := X.hg b hb
 refine ⟨h.okm b h1, fun id n s hr => ?_, arr, t, fr, ?_, h5⟩
 · rcases h.ownf id b n s hr with h6 | h6
   · omega
   · exact h2 h6
 rw [← h4, h.fr.block b h3 h2]
end Go.Clap
