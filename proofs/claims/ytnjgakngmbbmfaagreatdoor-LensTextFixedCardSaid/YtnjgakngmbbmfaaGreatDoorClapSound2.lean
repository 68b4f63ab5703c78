/- The checks of the small code against the loaded functions. -/
import Derived.Test.YtnjgakngmbbmfaaGreatDoorClapSound1
set_option linter.unusedVariables false
set_option linter.unusedSimpArgs false
namespace Go.Clap
variable {S : Sig} {fid : Nat → FuncId} {P : Program} {X : Ctx S} {σ : St S.toTyS} {a : Act} {w : World} {ok : Nat → Prop} {ρ : Id → Where}
variable {o : Oper} {next : Act → World → Prop} {Q : Exit → Act → World → Prop} {K : D S.toTyS → St S.toTyS → Prop} {O : Oracle S.toTyS} {T : Id → Prop}
theorem run_isAgg_of {t : TypeId} {b : Bool} (h : isAggB P t = some b) : (isAgg t).run P w = .ok b w := by
 unfold isAggB at h
 cases hu : P.underlying t with
 | none => simp [hu] at h
 | some d =>
  simp only [hu] at h
  simp only [isAgg, Sem.run_bind, run_underlying hu, Result.andThen_ok]
  cases d <;> simp_all
theorem run_sizeOf_of {t : TypeId} {n : Nat} (h : szOf P t = some n) : (sizeOf t).run P w = .ok n w := by
 unfold szOf at h
 cases hi : P.info? t with
 | none => simp [hi] at h
 | some i => simp [hi] at h; simp [sizeOf, typeInfo, hi, h]
theorem add_at (b o j : Nat) : (⟨b, o, none⟩ : Addr).add j = ⟨b, o + j, none⟩ := by unfold Addr.add; split <;> simp_all
theorem exists_list {α : Type} (n : Nat) {p : Nat → α → Prop} (h : ∀ j, j < n → ∃ u, p j u) : ∃ vs : List α, vs.length = n ∧ ∀ j u, vs[j]? = some u → p j u := by
 induction n with
 | zero => exact ⟨[], rfl, fun j u hu => by simp at hu⟩
 | succ n ih =>
  obtain ⟨vs, hl, hv⟩ := ih (fun j hj => h j (by omega))
  obtain ⟨u, hu⟩ := h n (by omega)
  refine ⟨vs ++ [u], by simp [hl], fun j x hx => ?_⟩
  rw [List.getElem?_append] at hx
  split at hx
  · exact hv j x hx
  · have : j = n := by
     have := (List.getElem?_eq_some_iff.1 hx).1
     simp at this; omega
    subst this
    rw [hl] at hx; simp at hx; subst hx; exact hu
theorem load_gen {t : TypeId} {agg : Bool} {n b off : Nat} {cs : List (C S.toTyS)} (hagg : isAggB P t = some agg) (hsz : szOf P t = some n) (h1 : (agg || decide (n = 1)) = true) (hn : cs.length = n)
 (hc : ∀ j d, cs[j]? = some d → ∃ u, w.cell? ⟨b, off + j, none⟩ = some u ∧ CRel S fid w ok ρ u d) :
 ∃ v, (∀ w' : World, w'.heap[b]? = w.heap[b]? → (loadVar t ⟨b, off, none⟩).run P w' = .ok v w') ∧ DRel S fid w ok ρ v (mkD agg cs) := by
 obtain ⟨vs, hl, hv⟩ := exists_list (α := Value) n (p := fun j u => w.cell? ⟨b, off + j, none⟩ = some u ∧ ∀ d, cs[j]? = some d → CRel S fid w ok ρ u d) (fun j hj => by
  obtain ⟨u, hu, hr⟩ := hc j cs[j] (List.getElem?_eq_getElem (by omega))
  exact ⟨u, hu, fun d hd => by rw [List.getElem?_eq_getElem (by omega)] at hd; cases hd; exact hr⟩)
 have hcell : ∀ (w' : World), w'.heap[b]? = w.heap[b]? → ∀ o, w'.cell? ⟨b, o, none⟩ = w.cell? ⟨b, o, none⟩ := fun w' hw o => World.cell?_of_block (w := w) hw
 cases agg with
 | true =>
  refine ⟨.agg vs.toArray, fun w' hw => ?_, vs.toArray, rfl, ?_⟩
  · have hload := run_loadCells_list (P := P) w' ⟨b, off, none⟩ vs (fun j v hj => by rw [add_at, hcell w' hw]; exact (hv j v hj).1)
    have hrun := run_isAgg_of (w := w') hagg
    rw [hl] at hload
    simp [loadVar, hrun, run_sizeOf_of (w := w') hsz, hload]
  · exact ⟨by simp [hl, hn], fun i v c hi hc' => (hv i v (by simpa using hi)).2 c hc'⟩
 | false =>
  simp at h1
  subst h1
  obtain ⟨c, rfl⟩ : ∃ c, cs = [c] := by
   cases cs with
   | nil => simp at hn
   | cons c rest => cases rest with
    | nil => exact ⟨c, rfl⟩
    | cons d r => simp at hn
  obtain ⟨v, rfl⟩ : ∃ v, vs = [v] := by
   cases vs with
   | nil => simp at hl
   | cons c rest => cases rest with
    | nil => exact ⟨c, rfl⟩
    | cons d r => simp at hl
  obtain ⟨h2, h3⟩ := hv 0 v rfl
  refine ⟨v, fun w' hw => ?_, h3 c rfl⟩
  have hrun := run_isAgg_of (w := w') hagg
  rw [← hcell w' hw] at h2
  simp at h2
  simp [loadVar, hrun, h2]
theorem var_cells (m : Mem S fid w ok ρ σ.ent) {id : Id} {cs : List (C S.toTyS)} (he : σ.ent id = some (.var cs)) {v : Value} {e off : Nat} (hv : CRel S fid w ok ρ v (.ptr id e off)) (h0 : e = 0) :
 ∃ b n s arr t, ρ id = .blk b n s ∧ v = .pointer (some ⟨b, off, none⟩) ∧ w.heap[b]? = some (.cells arr t (0, 0)) ∧ arr.size = n ∧ LRel S fid w ok ρ arr.toList cs := by
 have hm := m.live id _ he
 simp only [CRel] at hv
 cases hw : ρ id with
 | dead => rw [hw] at hm; exact hm.elim
 | empty => rw [hw] at hm; exact hm.elim
 | blk b n s =>
  rw [hw] at hm hv
  obtain ⟨arr, t, h1, h2, h3⟩ := hm
  subst h0
  simp at hv
  exact ⟨b, n, s, arr, t, rfl, hv, h1, h2, h3⟩
theorem row_cells (m : Mem S fid w ok ρ σ.ent) {id : Id} {ro : Bool} {c : S.Ty} {xs : List (S.U c)} (he : σ.ent id = some (.row ro c xs)) {v : Value} {e off : Nat} (hv : CRel S fid w ok ρ v (.ptr id e off)) (hl : e < xs.length) :
 ∃ b n arr t, ρ id = .blk b n (S.sz c) ∧ v = .pointer (some ⟨b, e * S.sz c + off, none⟩) ∧ w.heap[b]? = some (.cells arr t (0, 0)) ∧ arr.size = n ∧ xs.length * S.sz c ≤ n ∧
  ∀ (i : Nat) (x : S.U c) (j : Nat) (d : C S.toTyS), xs[i]? = some x → (S.row c x)[j]? = some d → ∃ u, arr[i * S.sz c + j]? = some u ∧ IRel S w ok u d := by
 have hm := m.live id _ he
 simp only [CRel] at hv
 cases hw : ρ id with
 | dead => rw [hw] at hm; exact hm.elim
 | empty => rw [hw] at hm; simp only [EntRel] at hm; subst hm; simp at hl
 | blk b n s =>
  rw [hw] at hm hv
  obtain ⟨rfl, arr, t, h1, h2, h3, h4⟩ := hm
  exact ⟨b, n, arr, t, rfl, hv, h1, h2, h3, h4⟩
theorem tab_cells (m : Mem S fid w ok ρ σ.ent) {id : Id} {c : S.Ty} {rows : List (List (S.U c))} {cur : Option (Nat × Option (Id × Nat))} (he : σ.ent id = some (.tab c rows cur)) {v : Value} {e : Nat} (hv : CRel S fid w ok ρ v (.ptr id e 0)) (hl : e < rows.length) :
 ∃ b n arr t, ρ id = .blk b n 1 ∧ v = .pointer (some ⟨b, e, none⟩) ∧ w.heap[b]? = some (.cells arr t (0, 0)) ∧ arr.size = n ∧ rows.length ≤ n ∧
  ∀ (j : Nat) (r : List (S.U c)), rows[j]? = some r → ∃ u, arr[j]? = some u ∧ CRel S fid w ok ρ u (tabC c cur j r) := by
 have hm := m.live id _ he
 simp only [CRel] at hv
 cases hw : ρ id with
 | dead => rw [hw] at hm; exact hm.elim
 | empty => rw [hw] at hm; exact hm.elim
 | blk b n s =>
  rw [hw] at hm hv
  obtain ⟨rfl, arr, t, h1, h2, h3, h4⟩ := hm
  exact ⟨b, n, arr, t, rfl, by simpa using hv, h1, h2, h3, h4⟩
theorem tabRd_spec {T : TyS} {c : T.Ty} {rows : List (List (T.U c))} {cur : Option (Nat × Option (Id × Nat))} {e : Nat} {K : C T → Prop} (h : tabRd c rows cur e K) {r : List (T.U c)} (hr : rows[e]? = some r) : K (tabC c cur e r) := by
 match cur, h with
 | none, h => exact h r hr
 | some (j, none), h =>
  have h' := h.2 r hr
  simpa [tabC, h.1] using h'
 | some (j, some (id, len)), h =>
  by_cases hj : e = j
  · simpa [tabC, hj] using h.1 hj
  · simpa [tabC, hj] using h.2 hj r hr
theorem getElem?_drop_take {α : Type} {l : List α} {off n j : Nat} {d : α} (h : ((l.drop off).take n)[j]? = some d) : l[off + j]? = some d ∧ j < n := by
 rw [List.getElem?_take] at h
 split at h
 · rw [List.getElem?_drop] at h; exact ⟨h, by assumption⟩
 · cases h
theorem cell_at {b off : Nat} {arr : Array Value} {t : TypeId} {fr : Nat × Nat} (h : w.heap[b]? = some (.cells arr t fr)) : w.cell? ⟨b, off, none⟩ = arr[off]? := by simp [World.cell?, h]
def LD (S : Sig) (fid : Nat → FuncId) (P : Program) (a : Act) (w : World) (ok : Nat → Prop) (ρ : Id → Where) (o : Oper) (σ : St S.toTyS) (q : Opd S.toTyS) (K : D S.toTyS → St S.toTyS → Prop) : Prop :=
 ∃ v d b, (∀ w' : World, w'.heap[b]? = w.heap[b]? → (execOp a.eval o).run P w' = .ok (.value v) w') ∧ K d σ ∧ DRel S fid w ok ρ v d ∧
  (ok b ∨ ∃ id e o1 n s, σ.ev q = .c (.ptr id e o1) ∧ ρ id = .blk b n s)
theorem py_load {q : Opd S.toTyS} {n : Nat} {agg : Bool} (hc : chkI S P fid o.op (.load q n agg) = true) (g : Gam S fid X σ a w ok ρ) (hk : (IOp.load q n agg).vc O σ K) : LD S fid P a w ok ρ o σ q K := by
 simp only [chkI] at hc
 split at hc
 case h_2 => cases hc
 case h_1 t p he =>
  simp only [Bool.and_eq_true, decide_eq_true_eq] at hc
  obtain ⟨⟨⟨h1, h2⟩, h3⟩, h4⟩ := hc
  have r1 := okOpd_rel h1 g
  have fin : ∀ b off (cs : List (C S.toTyS)), a.eval p = .pointer (some ⟨b, off, none⟩) → cs.length = n →
   (∀ j d, cs[j]? = some d → ∃ u, w.cell? ⟨b, off + j, none⟩ = some u ∧ CRel S fid w ok ρ u d) → K (mkD agg cs) σ → (ok b ∨ ∃ id e o1 n s, σ.ev q = .c (.ptr id e o1) ∧ ρ id = .blk b n s) → LD S fid P a w ok ρ o σ q K := by
   intro b off cs hv hl hcs hK hb
   obtain ⟨v, hr, hd⟩ := load_gen (P := P) h2 h3 (by simpa using h4) hl hcs
   exact ⟨v, _, b, fun w' hw => by simp [execOp, he, hv, Instr.loadAt, Instr.sureAddr, hr w' hw], hK, hd, hb⟩
  simp only [IOp.vc, chk_iff, decide_eq_true_eq] at hk
  split at hk
  · rename_i id e off hq
    rw [hq] at r1
    have hq' := hq
    split at hk
    · rename_i cs hid
      obtain ⟨h5, h6, hK⟩ := hk
      obtain ⟨b, m, s, arr, ty, hρ, hv, hh, hs, hl⟩ := var_cells g.mem hid r1 h5
      refine fin b off _ hv (by simp; omega) (fun j d hd => ?_) hK (.inr ⟨id, e, off, m, s, hq, hρ⟩)
      obtain ⟨h7, h8⟩ := getElem?_drop_take hd
      have hlt : off + j < arr.toList.length := by rw [hl.1]; exact (List.getElem?_eq_some_iff.1 h7).1
      exact ⟨arr.toList[off + j], by rw [cell_at hh]; simp at hlt ⊢, hl.2 _ _ _ (List.getElem?_eq_getElem hlt) h7⟩
    · rename_i ro c xs hid
      obtain ⟨h5, h6, hK⟩ := hk
      obtain ⟨b, m, arr, ty, hρ, hv, hh, hs, hl, hcs⟩ := row_cells g.mem hid r1 h5
      refine fin b _ _ hv (by simp [S.row_len]; omega) (fun j d hd => ?_) (hK _ (List.getElem?_eq_getElem h5)) (.inr ⟨id, e, off, m, _, hq, hρ⟩)
      obtain ⟨h7, h8⟩ := getElem?_drop_take hd
      obtain ⟨u, hu, hi⟩ := hcs e _ _ _ (List.getElem?_eq_getElem h5) h7
      exact ⟨u, by rw [cell_at hh, Nat.add_assoc]; exact hu, hi.crel⟩
    · rename_i c rows cur hid
      obtain ⟨h5, h6, hK⟩ := hk
      simp only [Bool.and_eq_true, decide_eq_true_eq, Bool.not_eq_true'] at h6
      obtain ⟨⟨rfl, rfl⟩, rfl⟩ := h6
      obtain ⟨b, m, arr, ty, hρ, hv, hh, hs, hl, hcs⟩ := tab_cells g.mem hid r1 h5
      obtain ⟨u, hu, hur⟩ := hcs e _ (List.getElem?_eq_getElem h5)
      refine fin b _ [tabC c cur e rows[e]] hv rfl (fun j d hd => ?_) (tabRd_spec hK (List.getElem?_eq_getElem h5)) (.inr ⟨id, e, 0, m, _, hq, hρ⟩)
      cases j with
      | zero => simp at hd; subst hd; exact ⟨u, by rw [cell_at hh]; exact hu, hur⟩
      | succ j => simp at hd
    · exact hk.elim
  · rename_i c x off hq
    rw [hq] at r1
    obtain ⟨h5, hK⟩ := hk
    obtain ⟨b, base, hb, hv, hcs⟩ := r1
    refine fin b _ _ hv (by simp [S.row_len]; omega) (fun j d hd => ?_) hK (.inl hb)
    obtain ⟨h7, h8⟩ := getElem?_drop_take hd
    obtain ⟨u, hu, hi⟩ := hcs _ _ h7
    exact ⟨u, by rw [Nat.add_assoc]; exact hu, hi.crel⟩
  · exact hk.elim
theorem snd_load {q : Opd S.toTyS} {n : Nat} {agg : Bool} (hc : chkI S P fid o.op (.load q n agg) = true) (g : Gam S fid X σ a w ok ρ) (hk : (IOp.load q n agg).vc O σ K) (hn : Owes S fid X a o next K w ok ρ T) : o.wp P a w next Q := by
 obtain ⟨v, d, b, h1, h2, h3, _⟩ := py_load hc g hk
 exact wp_value (h1 w rfl) (hn _ _ _ _ _ _ h2 g h3 (.refl _ _ _ _))
theorem ptr_addr (m : Mem S fid w ok ρ σ.ent) {id : Id} (he : (σ.ent id).isSome = true) {v : Value} {e off : Nat} (hv : CRel S fid w ok ρ v (.ptr id e off)) :
 ∃ b n s, ρ id = .blk b n s ∧ v = .pointer (some ⟨b, e * s + off, none⟩) := by
 obtain ⟨en, hen⟩ := Option.isSome_iff_exists.1 he
 have hm := m.live id _ hen
 simp only [CRel] at hv
 cases hw : ρ id with
 | dead => rw [hw] at hm; cases en <;> exact hm.elim
 | empty => rw [hw] at hv; exact hv.elim
 | blk b n s => rw [hw] at hv; exact ⟨b, n, s, rfl, hv⟩
theorem py_fa {q : Opd S.toTyS} {off : Nat} (hc : chkI S P fid o.op (.fa q off) = true) (g : Gam S fid X σ a w ok ρ) (hk : (IOp.fa q off).vc O σ K) : PY S fid P a w ok ρ o σ K := by
 simp only [chkI] at hc
 split at hc
 case h_2 => cases hc
 case h_1 t p f he =>
  simp only [Bool.and_eq_true] at hc
  obtain ⟨h1, h2⟩ := hc
  have r1 := okOpd_rel h1 g
  split at h2
  case h_2 => cases h2
  case h_1 fs hu =>
  split at h2
  case h_2 => cases h2
  case h_1 fd hfd =>
  simp only [Bool.and_eq_true, decide_eq_true_eq] at h2
  obtain ⟨rfl, h3⟩ := h2
  split at h3
  case h_2 => cases h3
  case h_1 n hsz =>
  simp at h3
  have key : ∀ b off, a.eval p = .pointer (some ⟨b, off, none⟩) → ∀ w, (execOp a.eval o).run P w = .ok (.value (.pointer (some ⟨b, off + fd.offset, none⟩))) w := by
   intro b off hv w
   have hrun := run_sizeOf_of (w := w) hsz
   simp [execOp, he, hv, Instr.fieldAt, run_underlying hu, hfd, Instr.sureAddr, fieldPlace, hrun, h3, add_at]
  simp only [IOp.vc, chk_iff, decide_eq_true_eq] at hk
  split at hk
  · rename_i id e o1 hq
    rw [hq] at r1
    obtain ⟨b, m, s, hρ, hv⟩ := ptr_addr g.mem hk.1 r1
    refine PY.intro (key _ _ hv) hk.2 (?_)
    simp [DRel, DRel1, CRel, hρ, Nat.add_assoc]
  · rename_i c x o1 hq
    rw [hq] at r1
    obtain ⟨b, base, hb, hv, hcs⟩ := r1
    exact PY.intro (key _ _ hv) hk (⟨b, base, hb, by simp [Nat.add_assoc], hcs⟩)
  · exact hk.elim
theorem py_nilck {q : Opd S.toTyS} (hc : chkI S P fid o.op (.nilck q) = true) (g : Gam S fid X σ a w ok ρ) (hk : (IOp.nilck q).vc O σ K) : PY S fid P a w ok ρ o σ K := by
 simp only [chkI] at hc
 split at hc
 case h_2 => cases hc
 case h_1 x he =>
  have r1 := okOpd_rel hc g
  simp only [IOp.vc, chk_iff, decide_eq_true_eq] at hk
  split at hk
  · rename_i id e o1 hq
    rw [hq] at r1
    obtain ⟨b, m, s, hρ, hv⟩ := ptr_addr g.mem hk.1 r1
    refine PY.intro (v := a.eval x) (by simp [execOp, he, hv]) hk.2 (r1)
  · rename_i c y o1 hq
    rw [hq] at r1
    obtain ⟨b, base, hb, hv, hcs⟩ := id r1
    refine PY.intro (v := a.eval x) (by simp [execOp, he, hv]) hk (r1)
  · exact hk.elim
theorem LRel.sub {vs : List Value} {cs : List (C S.toTyS)} (h : LRel S fid w ok ρ vs cs) (off n : Nat) : LRel S fid w ok ρ ((vs.drop off).take n) ((cs.drop off).take n) := by
 refine ⟨by simp [h.1], fun i v c hv hc => ?_⟩
 exact h.2 _ _ _ (getElem?_drop_take hv).1 (getElem?_drop_take hc).1
theorem py_fld {y : Opd S.toTyS} {off n : Nat} {agg : Bool} (hc : chkI S P fid o.op (.fld y off n agg) = true) (g : Gam S fid X σ a w ok ρ) (hk : (IOp.fld y off n agg).vc O σ K) : PY S fid P a w ok ρ o σ K := by
 simp only [chkI] at hc
 split at hc
 case h_2 => cases hc
 case h_1 t x f he =>
  simp only [Bool.and_eq_true] at hc
  obtain ⟨h1, h2⟩ := hc
  have r1 := okOpd_rel h1 g
  split at h2
  case h_2 => cases h2
  case h_1 fs hu =>
  split at h2
  case h_2 => cases h2
  case h_1 fd hfd =>
  simp only [Bool.and_eq_true, decide_eq_true_eq] at h2
  obtain ⟨⟨⟨rfl, h3⟩, h4⟩, h5⟩ := h2
  simp only [IOp.vc, chk_iff, decide_eq_true_eq] at hk
  split at hk
  case h_2 => exact hk.elim
  rename_i cs hq
  rw [hq] at r1
  obtain ⟨arr, hv, hl⟩ := r1
  obtain ⟨h6, hK⟩ := hk
  have hrun := fun w => run_isAgg_of (P := P) (w := w) h4
  have hsub := hl.sub fd.offset n
  have hsz : arr.size = cs.length := by simpa using hl.1
  cases agg with
  | true =>
   refine PY.intro (v := .agg (arr.extract fd.offset (fd.offset + n))) ?_ hK (⟨_, rfl, ?_⟩)
   · intro w; simp [execOp, he, hv, Instr.field, run_underlying hu, hfd, part, asAgg, hrun, run_sizeOf_of (w := w) h3]
   · have : (arr.extract fd.offset (fd.offset + n)).toList = (arr.toList.drop fd.offset).take n := by simp [List.take_drop, List.extract_eq_take_drop]
     rw [this]; exact hsub
  | false =>
   simp at h5
   subst h5
   have hlt : fd.offset < arr.size := by omega
   have hlt' : fd.offset < cs.length := by omega
   have e1 : (cs.drop fd.offset).take 1 = [cs[fd.offset]] := by
    rw [List.drop_eq_getElem_cons hlt', List.take_succ_cons, List.take_zero]
   refine PY.intro (v := arr[fd.offset]) ?_ hK (?_)
   · intro w; simp [execOp, he, hv, Instr.field, run_underlying hu, hfd, part, asAgg, hrun, hlt]
   · rw [e1]
     exact hl.2 fd.offset _ _ (by simp [hlt]) (List.getElem?_eq_getElem hlt')
theorem elemOfB_spec {t e : TypeId} (h : elemOfB P t = some e) : P.underlying t = some (.slice e) := by
 unfold elemOfB at h
 split at h
 · cases h; assumption
 · cases h
theorem entSz_live {oe : Option (Ent S.toTyS)} {n : Nat} (h : entSz S oe = some n) : ∃ e, oe = some e ∧ 0 < n ∧ ∀ b m s, EntRel S fid w ok ρ (.blk b m s) e → s = n := by
 cases oe with
 | none => simp [entSz] at h
 | some e =>
  refine ⟨e, rfl, ?_⟩
  cases e with
  | row ro c xs => simp [entSz] at h; subst h; exact ⟨S.sz_pos c, fun b m s hr => hr.1⟩
  | var cs => simp [entSz] at h
  | tab c rows cur => simp [entSz] at h; subst h; exact ⟨by omega, fun b m s hr => hr.1⟩
  | map kc vc l => simp [entSz] at h
theorem py_idxA {y j : Opd S.toTyS} {sz : Nat} (hc : chkI S P fid o.op (.idxA y j sz) = true) (g : Gam S fid X σ a w ok ρ) (hk : (IOp.idxA y j sz).vc O σ K) : PY S fid P a w ok ρ o σ K := by
 simp only [chkI] at hc
 split at hc
 case h_2 => cases hc
 case h_1 t x i he =>
  simp only [Bool.and_eq_true] at hc
  obtain ⟨⟨h1, h2⟩, h3⟩ := hc
  have r1 := okOpd_rel h1 g
  have r2 := okOpd_rel h2 g
  split at h3
  case h_2 => cases h3
  case h_1 e hu =>
  have hu' := elemOfB_spec hu
  simp at h3
  have key : ∀ b off len cap k i', a.eval x = .slice (some ⟨b, off, none⟩) len cap → a.eval i = .int k i' → 0 ≤ i' → i' < len →
   ∀ w, (execOp a.eval o).run P w = .ok (.value (.pointer (some ⟨b, off + i'.toNat * sz, none⟩))) w := by
   intro b off len cap k i' hv hi h0 h1 w
   simp [execOp, he, hv, hi, Instr.indexAt, asIntOf, run_underlying hu', h0, h1, run_sizeOf_of (w := w) h3, add_at]
  simp only [IOp.vc, chk_iff, decide_eq_true_eq] at hk
  split at hk
  · rename_i c xs k i' hq hj
    rw [hq] at r1
    rw [hj] at r2
    obtain ⟨hsz, ⟨h4, h5⟩, hK⟩ := hk
    obtain ⟨base, cap, hv, hcap, hmax, hisl⟩ := IRel.isl_inv r1
    have hlt : i'.toNat < xs.length := by omega
    obtain ⟨blk, off, rfl, hok, hcs⟩ := hisl (by rintro rfl; simp at hlt)
    refine PY.intro (key _ _ _ _ _ _ hv r2 h4 h5) (hK _ (List.getElem?_eq_getElem hlt)) (⟨blk, off + i'.toNat * sz, hok, by simp, fun jj d hd => ?_⟩)
    obtain ⟨u, h6, h7⟩ := hcs _ _ _ _ (List.getElem?_eq_getElem hlt) hd
    exact ⟨u, by rw [← hsz]; exact h6, h7⟩
  · rename_i id off ln k i' hq hj
    rw [hq] at r1
    rw [hj] at r2
    obtain ⟨hsz, ⟨h4, h5⟩, hK⟩ := hk
    obtain ⟨en, hid, _, hun⟩ := entSz_live (fid := fid) (w := w) (ok := ok) (ρ := ρ) hsz
    have hm := g.mem.live id _ hid
    have r1' : CRel S fid w ok ρ (a.eval x) (.osl id off ln) := r1
    simp only [CRel] at r1'
    cases hw : ρ id with
    | dead => rw [hw] at hm; exact hm.elim
    | empty => rw [hw] at r1'; obtain ⟨_, rfl, _⟩ := r1'; omega
    | blk b n s =>
     rw [hw] at hm r1'
     obtain rfl := hun b n s hm
     obtain ⟨base, cap, hv, h6, h7, h8⟩ := r1'
     obtain ⟨rfl, h9⟩ := h8 (by omega)
     refine PY.intro (key _ _ _ _ _ _ hv r2 h4 h5) hK (?_)
     simp [DRel, DRel1, CRel, hw, Nat.add_mul]
  · exact hk.elim
theorem py_idxArr {y j : Opd S.toTyS} {sz ln : Nat} (hc : chkI S P fid o.op (.idxArr y j sz ln) = true) (g : Gam S fid X σ a w ok ρ) (hk : (IOp.idxArr y j sz ln).vc O σ K) : PY S fid P a w ok ρ o σ K := by
 simp only [chkI] at hc
 split at hc
 case h_2 => cases hc
 case h_1 t x i he =>
  simp only [Bool.and_eq_true] at hc
  obtain ⟨⟨h1, h2⟩, h3⟩ := hc
  have r1 := okOpd_rel h1 g
  have r2 := okOpd_rel h2 g
  split at h3
  case h_2 => cases h3
  case h_1 n e hu =>
  simp only [Bool.and_eq_true, decide_eq_true_eq] at h3
  obtain ⟨rfl, h3⟩ := h3
  have key : ∀ b off k i', a.eval x = .pointer (some ⟨b, off, none⟩) → a.eval i = .int k i' → 0 ≤ i' → i' < n →
   ∀ w, (execOp a.eval o).run P w = .ok (.value (.pointer (some ⟨b, off + i'.toNat * sz, none⟩))) w := by
   intro b off k i' hv hi h0 h1 w
   simp [execOp, he, hv, hi, Instr.indexAt, asIntOf, run_underlying hu, Instr.sureAddr, h0, h1, run_sizeOf_of (w := w) h3, add_at]
  simp only [IOp.vc, chk_iff, decide_eq_true_eq] at hk
  split at hk
  · rename_i id e1 o1 k i' hq hj
    rw [hq] at r1
    rw [hj] at r2
    obtain ⟨hlive, ⟨h4, h5⟩, hK⟩ := hk
    obtain ⟨b, m, s, hρ, hv⟩ := ptr_addr g.mem hlive r1
    refine PY.intro (key _ _ _ _ hv r2 h4 h5) hK (?_)
    simp [DRel, DRel1, CRel, hρ, Nat.add_assoc]
  · rename_i c x' o1 k i' hq hj
    rw [hq] at r1
    rw [hj] at r2
    obtain ⟨⟨h4, h5⟩, hK⟩ := hk
    obtain ⟨b, base, hb, hv, hcs⟩ := r1
    exact PY.intro (key _ _ _ _ hv r2 h4 h5) hK (⟨b, base, hb, by simp [Nat.add_assoc], hcs⟩)
  · exact hk.elim
theorem py_idxS {y j : Opd S.toTyS} (hc : chkI S P fid o.op (.idxS y j) = true) (g : Gam S fid X σ a w ok ρ) (hk : (IOp.idxS y j).vc O σ K) : PY S fid P a w ok ρ o σ K := by
 simp only [chkI] at hc
 split at hc
 case h_2 => cases hc
 case h_1 t x i he =>
  simp only [Bool.and_eq_true] at hc
  obtain ⟨⟨h1, h2⟩, h3⟩ := hc
  have r1 := okOpd_rel h1 g
  have r2 := okOpd_rel h2 g
  split at h3
  case h_2 => cases h3
  case h_1 hu =>
  simp only [IOp.vc, chk_iff, decide_eq_true_eq] at hk
  split at hk
  · rename_i s k i' hq hj
    rw [hq] at r1
    rw [hj] at r2
    obtain ⟨⟨h4, h5⟩, hK⟩ := hk
    have hv : a.eval x = .string s := r1
    have hi : a.eval i = .int k i' := r2
    have hlt : i'.toNat < s.size := by omega
    refine PY.intro (v := .int .u8 (s[i'.toNat]).toNat) ?_ (hK (s[i'.toNat]) ?_) (rfl)
    · simp [execOp, he, hv, hi, Instr.index, asIntOf, run_underlying hu, h4, hlt]
    · exact Array.getElem?_eq_getElem hlt
  · exact hk.elim
theorem py_idxG {y j : Opd S.toTyS} {ln : Nat} (hc : chkI S P fid o.op (.idxG y j ln) = true) (g : Gam S fid X σ a w ok ρ) (hk : (IOp.idxG y j ln).vc O σ K) : PY S fid P a w ok ρ o σ K := by
 simp only [chkI] at hc
 split at hc
 case h_2 => cases hc
 case h_1 t x i he =>
  simp only [Bool.and_eq_true] at hc
  obtain ⟨⟨h1, h2⟩, h3⟩ := hc
  have r1 := okOpd_rel h1 g
  have r2 := okOpd_rel h2 g
  split at h3
  case h_2 => cases h3
  case h_1 n e hu =>
  simp only [Bool.and_eq_true, decide_eq_true_eq] at h3
  obtain ⟨⟨rfl, h4⟩, h5⟩ := h3
  simp only [IOp.vc, chk_iff, decide_eq_true_eq] at hk
  split at hk
  · rename_i cs k i' hq hj
    rw [hq] at r1
    rw [hj] at r2
    obtain ⟨⟨h6, h7⟩, h8, hK⟩ := hk
    obtain ⟨arr, hv, hl⟩ := r1
    have hi : a.eval i = .int k i' := r2
    have hsz : arr.size = cs.length := by simpa using hl.1
    have hlt : i'.toNat < arr.size := by omega
    have hlt' : i'.toNat < cs.length := by omega
    have hrun := fun w => run_isAgg_of (P := P) (w := w) h5
    refine PY.intro (v := arr[i'.toNat]) ?_ (hK _ (List.getElem?_eq_getElem hlt')) ?_
    · intro w; simp [execOp, he, hv, hi, Instr.index, asIntOf, run_underlying hu, h6, h7, part, hrun, run_sizeOf_of (w := w) h4, hlt]
    · exact hl.2 i'.toNat _ _ (by simp [hlt]) (List.getElem?_eq_getElem hlt')
  · exact hk.elim
theorem py_ext {y : Opd S.toTyS} {j : Nat} (hc : chkI S P fid o.op (.ext y j) = true) (g : Gam S fid X σ a w ok ρ) (hk : (IOp.ext y j).vc O σ K) : PY S fid P a w ok ρ o σ K := by
 simp only [chkI] at hc
 split at hc
 case h_2 => cases hc
 case h_1 x i he =>
  simp only [Bool.and_eq_true, decide_eq_true_eq] at hc
  obtain ⟨h1, rfl⟩ := hc
  have r1 := okOpd_rel h1 g
  simp only [IOp.vc, chk_iff, decide_eq_true_eq] at hk
  split at hk
  case h_2 => exact hk.elim
  rename_i ds hq
  rw [hq] at r1
  split at hk
  case h_2 => exact hk.elim
  rename_i d hd
  obtain ⟨arr, hv, hl, hcs⟩ := r1
  have hlt : i < arr.size := by have := (List.getElem?_eq_some_iff.1 hd).1; omega
  have hr := hcs i _ _ (Array.getElem?_eq_getElem hlt) hd
  refine PY.intro (v := arr[i]) (by simp [execOp, he, hv, Instr.extract, hlt]) hk (?_)
  cases d with
  | tup _ => exact hr.elim
  | any => exact hr
  | c x => exact hr
  | agg cs => exact hr
  | arrv c xs => exact hr
end Go.Clap
