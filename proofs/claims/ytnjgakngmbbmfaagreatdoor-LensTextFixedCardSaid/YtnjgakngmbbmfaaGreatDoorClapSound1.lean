/- The checks of the small code against the loaded functions. -/
import Derived.Test.YtnjgakngmbbmfaaGreatDoorClapChk
set_option linter.unusedVariables false
set_option linter.unusedSimpArgs false
namespace Go.Clap
variable {S : Sig} {fid : Nat → FuncId} {P : Program} {X : Ctx S} {σ : St S.toTyS} {a : Act} {w : World} {ok : Nat → Prop} {ρ : Id → Where}
theorem okConst_rel {v : Value} {c : C S.toTyS} (h : okConst S.toTyS v c = true) : CRel S fid w ok ρ v c ∧ c.ids = [] := by
 cases v <;> cases c <;> simp [okConst] at h
 case int.int k n k' n' => obtain ⟨rfl, rfl⟩ := h; exact ⟨rfl, rfl⟩
 case bool.bool a b => subst h; exact ⟨rfl, rfl⟩
 case string.str a b =>
  obtain ⟨⟨a⟩⟩ := a
  obtain ⟨⟨b⟩⟩ := b
  simp at h
  subst h
  exact ⟨rfl, rfl⟩
 case pointer.nilp p => cases p <;> simp at h; exact ⟨rfl, rfl⟩
 case slice.isl b l cp c xs =>
  cases b <;> cases l <;> cases cp <;> cases xs <;> simp_all [okConst]
  exact ⟨CRel.le (a := .nils) rfl (.inr ⟨rfl, c, rfl⟩), rfl⟩
 case slice.nils b l cp =>
  cases b <;> cases l <;> cases cp <;> simp_all [okConst]
  exact ⟨rfl, rfl⟩
 case nilFunc.nilf => exact ⟨rfl, rfl⟩
 case nilIface.any => exact ⟨rfl, rfl⟩
 case nilIface.ife o => cases o <;> simp [okConst] at h; exact ⟨.inl ⟨rfl, rfl⟩, rfl⟩
 case nilIface.ifc b => subst h; exact ⟨.inl ⟨rfl, rfl⟩, rfl⟩
theorem okConsts_rel : ∀ {vs : List Value} {cs : List (C S.toTyS)}, okConsts S.toTyS vs cs = true → LRel S fid w ok ρ vs cs ∧ idsL cs = []
 | [], [], _ => ⟨⟨rfl, fun i v c h => by simp at h⟩, rfl⟩
 | [], _ :: _, h => by simp [okConsts] at h
 | _ :: _, [], h => by simp [okConsts] at h
 | v :: vs, c :: cs, h => by
  simp only [okConsts, Bool.and_eq_true] at h
  obtain ⟨h1, h2⟩ := okConst_rel (fid := fid) (w := w) (ok := ok) (ρ := ρ) h.1
  obtain ⟨⟨h3, h4⟩, h5⟩ := okConsts_rel (vs := vs) (cs := cs) h.2
  refine ⟨⟨by simp [h3], fun i u d hu hd => ?_⟩, by simp [idsL, h2, h5]⟩
  cases i with
  | zero => simp at hu hd; subst hu; subst hd; exact h1
  | succ i => simp at hu hd; exact h4 i u d hu hd
theorem okOpd_rel {x : Operand} {y : Opd S.toTyS} (h : okOpd S.toTyS fid x y = true) (g : Gam S fid X σ a w ok ρ) : DRel S fid w ok ρ (a.eval x) (σ.ev y) := by
 cases x <;> cases y <;> simp [okOpd] at h
 case tmp.t t k => subst h; exact g.env t
 case const.c v c => exact (okConst_rel h).1
 case const.g v cs =>
  cases v <;> simp at h
  case agg xs => exact ⟨xs, rfl, (okConsts_rel h).1⟩
 case func.c f c =>
  cases c <;> try (simp at h; done)
  case fn gf caps =>
   cases caps <;> simp at h
   subst h
   exact ⟨#[], rfl, rfl, fun i id b n sz hi => by simp at hi⟩
theorem okOpd_fresh {x : Operand} {y : Opd S.toTyS} (h : okOpd S.toTyS fid x y = true) {id : Id} (hf : σ.fresh id = true) : id ∉ (σ.ev y).ids := by
 cases x <;> cases y <;> simp [okOpd] at h
 case tmp.t t k => exact St.fresh_get hf k
 case const.c v c =>
  have := (okConst_rel (fid := fid) (w := default) (ok := fun _ => True) (ρ := fun _ => .dead) h).2
  simp [St.ev, D.ids, D.ids1, this]
 case const.g v cs =>
  cases v <;> simp at h
  case agg xs =>
   have := (okConsts_rel (fid := fid) (w := default) (ok := fun _ => True) (ρ := fun _ => .dead) h).2
   simp [St.ev, D.ids, D.ids1, this]
 case func.c f c =>
  cases c <;> try (simp at h; done)
  case fn gf caps => cases caps <;> simp at h; simp [St.ev, D.ids, D.ids1, C.ids]
theorem DRel.cells_rel {v : Value} {d : D S.toTyS} (h : DRel S fid w ok ρ v d) {cs : List (C S.toTyS)} (hc : d.cells = some cs) : LRel S fid w ok ρ v.cells.toList cs := by
 cases d <;> simp [D.cells] at hc
 case c x =>
  subst hc
  have h1 : CRel S fid w ok ρ v x := h
  have ho := h1.oneCell
  have hv : v.cells = #[v] := by cases v <;> simp_all [Value.cells, Value.oneCell']
  rw [hv]
  refine ⟨rfl, fun i u d hu hd => ?_⟩
  cases i with
  | zero => simp at hu hd; subst hu; subst hd; exact h1
  | succ i => simp at hu
 case agg cs' =>
  subst hc
  obtain ⟨arr, rfl, hl⟩ := h
  exact hl
theorem cells_ids {d : D S.toTyS} {cs : List (C S.toTyS)} (hc : d.cells = some cs) : idsL cs = d.ids := by
 cases d <;> simp [D.cells] at hc
 case c x => subst hc; simp [idsL, D.ids, D.ids1]
 case agg cs' => subst hc; simp [D.ids, D.ids1]
theorem LRel.oneCells {vs : List Value} {cs : List (C S.toTyS)} (h : LRel S fid w ok ρ vs cs) : ∀ v ∈ vs, v.oneCell' = true := by
 intro v hv
 obtain ⟨i, hi, rfl⟩ := List.mem_iff_getElem.1 hv
 have hi' : i < cs.length := h.1 ▸ hi
 exact (h.2 i _ _ (List.getElem?_eq_getElem hi) (List.getElem?_eq_getElem hi')).oneCell
section
variable {o : Oper} {next : Act → World → Prop} {Q : Exit → Act → World → Prop}
theorem wp_value {v : Value} {w' : World} (h : (execOp a.eval o).run P w = .ok (.value v) w') (hn : next (a.put o.dst v) w') : o.wp P a w next Q := by
 unfold Oper.wp; rw [h]; exact hn
theorem wp_skipv {w' : World} (h : (execOp a.eval o).run P w = .ok .skip w') (hn : next (a.put o.dst undef) w') : o.wp P a w next Q := by
 unfold Oper.wp; rw [h]; exact hn
def Fr2 (T : Id → Prop) (w : World) (ok : Nat → Prop) (ρ : Id → Where) (w' : World) (ok' : Nat → Prop) (ρ' : Id → Where) : Prop :=
 w.heap.size ≤ w'.heap.size ∧ (∀ b, b < w.heap.size → (ok b ∨ ∀ id n s, T id → ρ id ≠ .blk b n s) → w'.heap[b]? = w.heap[b]?) ∧
 (∀ b, ok b → ok' b) ∧ ∀ id b n s, ¬ T id → ρ id = .blk b n s → ρ' id = .blk b n s
theorem Fr2.refl (T : Id → Prop) (w : World) (ok : Nat → Prop) (ρ : Id → Where) : Fr2 T w ok ρ w ok ρ := ⟨Nat.le_refl _, fun _ _ _ => rfl, fun _ h => h, fun _ _ _ _ _ h => h⟩
theorem Fr2.alloc (T : Id → Prop) (o : Obj) {id : Id} (n s : Nat) (hid : ρ id = .dead) : Fr2 T w ok ρ (w.alloc o) ok (updW ρ id (.blk w.heap.size n s)) := by
 refine ⟨by simp [show (w.alloc o).heap.size = w.heap.size + 1 from Array.size_push _], fun b hb _ => heap_alloc_old w o b hb, fun _ h => h, fun j b n' s' _ h => ?_⟩
 by_cases e : j = id
 · subst e; rw [hid] at h; cases h
 · rw [updW_ne e]; exact h
def Owes (S : Sig) (fid : Nat → FuncId) (X : Ctx S) (a : Act) (o : Oper) (next : Act → World → Prop) (K : D S.toTyS → St S.toTyS → Prop) (w : World) (ok : Nat → Prop) (ρ : Id → Where) (T : Id → Prop) : Prop :=
 ∀ v w' d σ' ok' ρ', K d σ' → Gam S fid X σ' a w' ok' ρ' → DRel S fid w' ok' ρ' v d → Fr2 T w ok ρ w' ok' ρ' → next (a.put o.dst v) w'
variable {K : D S.toTyS → St S.toTyS → Prop} {O : Oracle S.toTyS} {T : Id → Prop}
def PY (S : Sig) (fid : Nat → FuncId) (P : Program) (a : Act) (w : World) (ok : Nat → Prop) (ρ : Id → Where) (o : Oper) (σ : St S.toTyS) (K : D S.toTyS → St S.toTyS → Prop) : Prop :=
 ∃ v d, (∀ w', (execOp a.eval o).run P w' = .ok (.value v) w') ∧ K d σ ∧ DRel S fid w ok ρ v d
theorem PY.intro {v : Value} {d : D S.toTyS} (h : ∀ w', (execOp a.eval o).run P w' = .ok (.value v) w') (hk : K d σ) (hr : DRel S fid w ok ρ v d) : PY S fid P a w ok ρ o σ K := ⟨v, d, h, hk, hr⟩
theorem snd_of_py (h : PY S fid P a w ok ρ o σ K) (g : Gam S fid X σ a w ok ρ) (hn : Owes S fid X a o next K w ok ρ T) : o.wp P a w next Q := by
 obtain ⟨v, d, h1, h2, h3⟩ := h
 exact wp_value (h1 w) (hn _ _ _ _ _ _ h2 g h3 (.refl _ _ _ _))
theorem py_mv {y : Opd S.toTyS} (hc : chkI S P fid o.op (.mv y) = true) (g : Gam S fid X σ a w ok ρ) (hk : (IOp.mv y).vc O σ K) : PY S fid P a w ok ρ o σ K := by
 simp only [chkI] at hc
 split at hc
 case h_1 x he => exact PY.intro (by simp [execOp, he]) hk ((okOpd_rel hc g))
 case h_2 x he => exact PY.intro (by simp [execOp, he]) hk ((okOpd_rel hc g))
 case h_3 => cases hc
theorem DRel.int_inv {v : Value} {k : IntKind} {n : Int} (h : DRel S fid w ok ρ v (.c (.int k n))) : v = .int k n := h
theorem py_pick {c y z : Opd S.toTyS} (hc : chkI S P fid o.op (.pick c y z) = true) (g : Gam S fid X σ a w ok ρ) (hk : (IOp.pick c y z).vc O σ K) : PY S fid P a w ok ρ o σ K := by
 simp only [chkI] at hc
 split at hc
 case h_2 => cases hc
 case h_1 c' a' b' he =>
  simp only [Bool.and_eq_true] at hc
  obtain ⟨⟨h1, h2⟩, h3⟩ := hc
  have r1 := okOpd_rel h1 g
  have r2 := okOpd_rel h2 g
  have r3 := okOpd_rel h3 g
  have key : ∀ t : Bool, σ.ev c = .c (.bool t) → ∀ d, DRel S fid w ok ρ (if t then a.eval a' else a.eval b') d → K d σ → PY S fid P a w ok ρ o σ K := by
   intro t ht d hd hK
   rw [ht] at r1
   have hv : a.eval c' = .bool t := r1
   exact PY.intro (v := if t then a.eval a' else a.eval b') (by simp [execOp, he, hv, asBool]) hK (hd)
  simp only [IOp.vc, chk_iff, decide_eq_true_eq] at hk
  split at hk
  · rename_i t p q e1 e2 e3
    rw [e2] at r2
    rw [e3] at r3
    refine key t e1 _ ?_ hk
    cases t
    · simpa using r3
    · simpa using r2
  · rename_i t e1 _
    cases t
    · exact key false e1 _ (by simpa using r3) hk
    · exact key true e1 _ (by simpa using r2) hk
  · exact hk.elim
theorem run_newVar (t : TypeId) (v : Value) (w : World) : (newVar t v).run P w = .ok ⟨w.heap.size, 0, none⟩ (w.alloc (.cells v.cells t)) := by
 simp [newVar, newRow]
theorem new_var (g : Gam S fid X σ a w ok ρ) {id : Id} (hx : ∀ j, id ≠ .x j) (hf : σ.fresh id = true) {arr : Array Value} {cs : List (C S.toTyS)} (t : TypeId) (hl : LRel S fid w ok ρ arr.toList cs) (hid : id ∉ idsL cs) :
 Gam S fid X (σ.put id (some (.var cs))) a (w.alloc (.cells arr t)) ok (updW ρ id (.blk w.heap.size arr.size 1)) ∧
 DRel S fid (w.alloc (.cells arr t)) ok (updW ρ id (.blk w.heap.size arr.size 1)) (.pointer (some ⟨w.heap.size, 0, none⟩)) (.c (.ptr id 0 0)) := by
 refine ⟨g.new hx hf rfl ⟨arr, t, heap_alloc_new w _, rfl, ?_⟩, ?_⟩
 · exact hl.mono (fun b hb => heap_alloc_old w _ b (g.mem.okl b hb)) (fun _ x => x) (updW_stays hid)
 · simp [DRel, DRel1, CRel, updW_same]
theorem snd_box {k : Nat} {y : Opd S.toTyS} (hc : chkI S P fid o.op (.box k y) = true) (g : Gam S fid X σ a w ok ρ) (hk : (IOp.box k y).vc O σ K) (hn : Owes S fid X a o next K w ok ρ T) : o.wp P a w next Q := by
 simp only [chkI] at hc
 split at hc
 case h_2 => cases hc
 case h_1 t x he =>
  have r1 := okOpd_rel hc g
  simp only [IOp.vc, chk_iff, decide_eq_true_eq] at hk
  split at hk
  · rename_i cs hcs
    obtain ⟨hf, hK⟩ := hk
    have hl := r1.cells_rel hcs
    have hid : Id.s k ∉ idsL cs := by rw [cells_ids hcs]; exact okOpd_fresh hc hf
    obtain ⟨g', hd⟩ := new_var g (by intro j h; cases h) hf t hl hid
    exact wp_value (by simp [execOp, he, Instr.box, run_newVar]) (hn _ _ _ _ _ _ hK g' hd (.alloc _ _ _ _ (g.mem.gone _ (St.fresh_none hf))))
  · exact hk.elim
theorem okZero_spec {t : TypeId} {cs : List (C S.toTyS)} (h : okZero S.toTyS P t cs = true) : ∃ z, (zeroValue t).run P w = .ok z w ∧ okConsts S.toTyS z.cells.toList cs = true ∧ (P.info? t).bind (·.zero) = some z := by
 unfold okZero at h
 split at h
 · rename_i z hz
   refine ⟨z, ?_, h, hz⟩
   cases hi : P.info? t with
   | none => simp [hi] at hz
   | some i =>
    simp [hi] at hz
    simp [zeroValue, typeInfo, hi, hz]
 · cases h
theorem snd_alloc {k : Nat} {zero : List (C S.toTyS)} (hc : chkI S P fid o.op (.alloc k zero) = true) (g : Gam S fid X σ a w ok ρ) (hk : (IOp.alloc k zero).vc O σ K) (hn : Owes S fid X a o next K w ok ρ T) : o.wp P a w next Q := by
 simp only [chkI] at hc
 split at hc
 case h_2 => cases hc
 case h_1 t he =>
  obtain ⟨z, hz, h1, _⟩ := okZero_spec (w := w) hc
  obtain ⟨hl, hids⟩ := okConsts_rel (fid := fid) (w := w) (ok := ok) (ρ := ρ) h1
  obtain ⟨hf, hK⟩ := chk_iff.1 hk
  obtain ⟨g', hd⟩ := new_var g (by intro j h; cases h) hf t hl (by rw [hids]; simp)
  exact wp_value (by simp [execOp, he, Instr.alloc, hz, run_newVar]) (hn _ _ _ _ _ _ hK g' hd (.alloc _ _ _ _ (g.mem.gone _ (St.fresh_none hf))))
end
end Go.Clap
