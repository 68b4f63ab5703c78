/- The checks of the small code against the loaded functions. -/
import Derived.Test.YtnjgakngmbbmfaaGreatDoorClapRun
set_option linter.unusedVariables false
set_option linter.unusedSimpArgs false
namespace Go.Clap
variable {S : Sig} {fid : Nat → FuncId} {P : Program} {X : Ctx S} {σ : St S.toTyS} {a : Act} {w : World} {ok : Nat → Prop} {ρ : Id → Where}
inductive Ex where
 | nrm
 | ext (id : Nat)
 | ret
def D.cell? {T : TyS} (d : D T) (j : Nat) : Option (C T) :=
 match d with
 | .c x => if j = 0 then some x else none
 | .agg cs => cs[j]?
 | _ => none
def D.setCell {T : TyS} (d : D T) (j : Nat) (x : C T) : D T :=
 match d with
 | .c _ => .c x
 | .agg cs => .agg (cs.set j x)
 | d => d
def keepF (ids : List Id) (id : Id) : Option Id := if ids.contains id then some id else none
def St.keep {T : TyS} (σ : St T) (ks : List Nat) (ids : List Id) : St T :=
 ⟨ks.map fun k => (k, (σ.get k).ren (keepF ids)), ids.map fun i => (i, (σ.ent i).map (Ent.ren (keepF ids)))⟩
def notX : Id → Bool
 | .x _ => false
 | _ => true
def Ps.vc (σ : St S.toTyS) (K : St S.toTyS → Prop) : Ps S.toTyS → Prop
 | .keep ks ids => K (σ.keep ks ids)
 | .own k j c id => match (σ.get k).cell? j with
  | some .nils => chk (notX id && σ.fresh id) (K ((σ.put id (some (.row false c []))).set k ((σ.get k).setCell j (.osl id 0 0))))
  | some (.osl i off len) => bsel (decide (i = id)) (K σ) (chk (notX id && σ.fresh id) (match σ.ent i with
   | some (.row ro c' xs) => K (((σ.put i none).put id (some (.row ro c' xs))).set k ((σ.get k).setCell j (.osl id off len)))
   | _ => False))
  | _ => False
 | .ownc v j c id => match σ.ent v with
  | some (.var cs) => match cs[j]? with
   | some .nils => chk (notX id && σ.fresh id) (K ((σ.put id (some (.row false c []))).put v (some (.var (cs.set j (.osl id 0 0))))))
   | some (.osl i off len) => bsel (decide (i = id)) (K σ) (chk (notX id && σ.fresh id) (match σ.ent i with
    | some (.row ro c' xs) => chk (decide (v ≠ i)) (K (((σ.put i none).put id (some (.row ro c' xs))).put v (some (.var (cs.set j (.osl id off len))))))
    | _ => False))
   | _ => False
  | _ => False
 | .frz k j c => match (σ.get k).cell? j with
  | some .nils => K (σ.set k ((σ.get k).setCell j (.isl c [])))
  | some (.isl _ _) => K σ
  | some (.osl id off len) => match σ.ent id with
   | some (.row ro c' xs) => chk (decide (off = 0)) (len = xs.length ∧ K ((σ.put id (some (.row true c' xs))).set k ((σ.get k).setCell j (.isl c' xs))))
   | _ => False
  | _ => False
 | .frzc v j c => match σ.ent v with
  | some (.var cs) => match cs[j]? with
   | some .nils => K (σ.put v (some (.var (cs.set j (.isl c [])))))
   | some (.isl _ _) => K σ
   | some (.osl id off len) => match σ.ent id with
    | some (.row ro c' xs) => chk (decide (off = 0)) (len = xs.length ∧ chk (decide (v ≠ id)) (K ((σ.put id (some (.row true c' xs))).put v (some (.var (cs.set j (.isl c' xs)))))))
    | _ => False
   | _ => False
  | _ => False
def vcPs : List (Ps S.toTyS) → St S.toTyS → (St S.toTyS → Prop) → Prop
 | [], σ, K => K σ
 | p :: ps, σ, K => p.vc σ fun σ' => vcPs ps σ' K
def vcSegs (O : Oracle S.toTyS) (last : List (Ins S.toTyS)) : List (List (Ins S.toTyS) × List Nat × List Id) → St S.toTyS → (St S.toTyS → Prop) → Prop
 | [], σ, K => vcOps O last σ K
 | (is, ks, ids) :: rest, σ, K => ∃ J : St S.toTyS → Prop, (vcOps O is σ fun σ' => J (σ'.keep ks ids)) ∧ ∀ σ', J σ' → vcSegs O last rest σ' K
def vcC (O : Oracle S.toTyS) : IC S.toTyS → St S.toTyS → (Ex → St S.toTyS → Prop) → Prop
 | .skip, σ, K => K .nrm σ
 | .reg ops, σ, K => vcOps O ops σ (K .nrm)
 | .drw M ord late fl ops, σ, K => vcOrd O M late fl ops ord σ (K .nrm)
 | .seq a b, σ, K => vcC O a σ fun e σ' => match e with
  | .nrm => vcC O b σ' K
  | e => K e σ'
 | .cond k a b, σ, K => match σ.get k with
  | .c (.bool t) => bsel t (vcC O a σ K) (vcC O b σ K)
  | _ => False
 | .condc t a b, σ, K => bsel t (vcC O a σ K) (vcC O b σ K)
 | .block id a, σ, K => vcC O a σ fun e σ' => match e with
  | .ext i => if i = id then K .nrm σ' else K (.ext i) σ'
  | e => K e σ'
 | .loop a, σ, K => ∃ I : St S.toTyS → Nat → Prop, (∃ n, I σ n) ∧ ∀ σ n, I σ n → vcC O a σ fun e σ' => match e with
  | .nrm => ∃ n', n' < n ∧ I σ' n'
  | e => K e σ'
 | .exit id, σ, K => K (.ext id) σ
 | .ret, σ, K => K .ret σ
 | .fz k j rest, σ, K => match (σ.get k).cell? j with
  | some (.osl id off len) => match σ.ent id with
   | some (.row ro c xs) => off + len ≤ xs.length ∧ vcC O rest ((σ.put id (some (.row true c xs))).set k ((σ.get k).setCell j (.isl c ((xs.drop off).take len)))) K
   | _ => False
  | _ => False
 | .fzc v j rest, σ, K => match σ.ent v with
  | some (.var cs) => match cs[j]? with
   | some (.osl id off len) => match σ.ent id with
    | some (.row ro c xs) => off + len ≤ xs.length ∧ chk (decide (v ≠ id)) (vcC O rest ((σ.put id (some (.row true c xs))).put v (some (.var (cs.set j (.isl c ((xs.drop off).take len)))))) K)
    | _ => False
   | _ => False
  | _ => False
 | .own k c id rest, σ, K => chk (notX id && σ.fresh id) (match σ.get k with
  | .c .nils => vcC O rest ((σ.put id (some (.row false c []))).set k (.c (.osl id 0 0))) K
  | .c (.osl i off len) => match σ.ent i with
   | some (.row ro c' xs) => vcC O rest (((σ.put i none).put id (some (.row ro c' xs))).set k (.c (.osl id off len))) K
   | _ => False
  | _ => False)
 | .ownc v j c id rest, σ, K => chk (notX id && σ.fresh id) (match σ.ent v with
  | some (.var cs) => match cs[j]? with
   | some .nils => vcC O rest ((σ.put id (some (.row false c []))).put v (some (.var (cs.set j (.osl id 0 0))))) K
   | some (.osl i off len) => match σ.ent i with
    | some (.row ro c' xs) => chk (decide (v ≠ i)) (vcC O rest (((σ.put i none).put id (some (.row ro c' xs))).put v (some (.var (cs.set j (.osl id off len))))) K)
    | _ => False
   | _ => False
  | _ => False)
 | .keep ks ids rest, σ, K => vcC O rest (σ.keep ks ids) K
 | .tab id c rest, σ, K => match σ.ent id with
  | some (.row false c2 xs) => ∃ rows : List (List (S.U c)), xs.map (S.row c2) = rows.map (fun r => [C.isl c r]) ∧ S.sz c2 = 1 ∧ xs ≠ [] ∧ vcC O rest (σ.put id (some (.tab c rows none))) K
  | _ => False
 | .untab id c2 rest, σ, K => match σ.ent id with
  | some (.tab c rows none) => ∃ xs : List (S.U c2), xs.map (S.row c2) = rows.map (fun r => [C.isl c r]) ∧ S.sz c2 = 1 ∧ vcC O rest (σ.put id (some (.row false c2 xs))) K
  | _ => False
 | .fzt v rest, σ, K => match σ.ent v with
  | some (.tab c rows (some (j, some (id, len)))) => match σ.ent id with
   | some (.row ro c' xs) => chk (decide (v ≠ id)) (len ≤ xs.length ∧ ∃ h : c' = c, vcC O rest ((σ.put id (some (.row true c' xs))).put v (some (.tab c (rows.set j (h ▸ (xs.take len))) none))) K)
   | _ => False
  | _ => False
 | .pre ps a, σ, K => vcPs ps σ fun σ' => vcC O a σ' K
 | .aft a ps, σ, K => vcC O a σ fun e σ' => match e with
  | .nrm => vcPs ps σ' (K .nrm)
  | e => K e σ'
 | .regc segs last, σ, K => vcSegs O last segs σ (K .nrm)
 | .cut1 ks ids a, σ, K => ∃ J : St S.toTyS → Prop, (vcC O a σ fun e σ' => match e with
  | .nrm => J (σ'.keep ks ids)
  | e => K e σ') ∧ ∀ σ', J σ' → K .nrm σ'
 | .cut ks ids a b, σ, K => ∃ J : St S.toTyS → Prop, (vcC O a σ fun e σ' => match e with
  | .nrm => J (σ'.keep ks ids)
  | e => K e σ') ∧ ∀ σ', J σ' → vcC O b σ' K
 | .dead, _, _ => False
def chkRegOps (S : Sig) (P : Program) (fid : Nat → FuncId) (n : Nat) (ops : Array Oper) (is : List (Ins S.toTyS)) : Bool :=
 decide (is.length = ops.size) && (is.zipIdx.all fun p => match ops[p.2]? with | some o => chkIns S P fid n ops o p.1 | none => false)
def chkC (S : Sig) (P : Program) (fid : Nat → FuncId) (n : Nat) : IC S.toTyS → Code → Bool
 | .fz _ _ rest, c | .fzc _ _ rest, c | .own _ _ _ rest, c | .ownc _ _ _ _ rest, c | .keep _ _ rest, c | .tab _ _ rest, c | .untab _ _ rest, c | .fzt _ rest, c => chkC S P fid n rest c
 | .pre _ a, c | .aft a _, c | .cut1 _ _ a, c => chkC S P fid n a c
 | .regc segs last, .region _ ops false => chkRegOps S P fid n ops (segs.flatMap (·.1) ++ last)
 | .cut _ _ a b, .seq x y => chkC S P fid n a x && chkC S P fid n b y
 | .skip, .skip => true
 | .reg is, .region _ ops false => chkRegOps S P fid n ops is
 | .drw M ord late fl is, .region _ ops true => chkRegOps S P fid n ops is && Region.noSelect ops &&
  ordGo S .any ops is late fl ops.size (Array.replicate ops.size false) ord
 | .seq a b, .seq x y => chkC S P fid n a x && chkC S P fid n b y
 | .cond k a b, .cond (.tmp t) x y => decide (t = k) && chkC S P fid n a x && chkC S P fid n b y
 | .condc t a b, .cond (.const (.bool u)) x y => decide (u = t) && (match t with | true => chkC S P fid n a x | false => chkC S P fid n b y)
 | .block i a, .block j x => decide (i = j) && chkC S P fid n a x
 | .loop a, .loop x => chkC S P fid n a x
 | .exit i, .exit j => decide (i = j)
 | .ret, .ret => true
 | .dead, _ => true
 | _, _ => false
def PostC (S : Sig) (fid : Nat → FuncId) (X : Ctx S) (K : Ex → St S.toTyS → Prop) : Exit → Act → World → Prop
 | .normal, a, w => ∃ σ ok ρ, K .nrm σ ∧ Gam S fid X σ a w ok ρ
 | .exit i, a, w => ∃ σ ok ρ, K (.ext i) σ ∧ Gam S fid X σ a w ok ρ
 | .ret, a, w => ∃ σ ok ρ, K .ret σ ∧ Gam S fid X σ a w ok ρ
 | _, _, _ => False
theorem PostC.noPan {K : Ex → St S.toTyS → Prop} : NoPan (PostC S fid X K) := fun _ _ _ h => h
theorem D.cell_rel {d : D S.toTyS} {j : Nat} {x : C S.toTyS} {v : Value} (h : DRel S fid w ok ρ v d) (hc : d.cell? j = some x) :
 ∃ u, CRel S fid w ok ρ u x ∧ ∀ ok' ρ' y, (∀ b, ok b → ok' b) → (∀ i ∈ d.ids, ∀ z, z ∈ d.ids → True) → Stays d.ids ρ ρ' → CRel S fid w ok' ρ' u y → DRel S fid w ok' ρ' v (d.setCell j y) := by
 cases d with
 | any => cases hc
 | tup _ => cases hc
 | arrv _ _ => cases hc
 | c z =>
  simp only [D.cell?] at hc
  split at hc
  · cases hc; exact ⟨v, h, fun ok' ρ' y _ _ _ hy => hy⟩
  · cases hc
 | agg cs =>
  obtain ⟨arr, rfl, hl, hr⟩ := h
  simp only [D.cell?] at hc
  have hj := (List.getElem?_eq_some_iff.1 hc).1
  have hj' : j < arr.toList.length := by omega
  refine ⟨arr.toList[j], hr j _ _ (List.getElem?_eq_getElem hj') hc, fun ok' ρ' y ho _ hst hy => ⟨arr, rfl, by simp [hl], fun i u c hu hc' => ?_⟩⟩
  rw [List.getElem?_set] at hc'
  split at hc'
  · rename_i e
    subst e
    rw [List.getElem?_eq_getElem hj'] at hu
    cases hu
    simp only [hj, if_true, Option.some.injEq] at hc'
    subst hc'
    exact hy
  · exact (hr i u c hu hc').mono (fun _ _ => rfl) ho fun id hi => hst id (by simpa [D.ids, D.ids1] using mem_idsL (List.mem_of_getElem? hc') hi)
theorem Gam.redoEnt (g : Gam S fid X σ a w ok ρ) {id : Id} {e e' : Ent S.toTyS} (he : σ.ent id = some e) (hro : e'.ro = e.ro) (h : EntRel S fid w ok ρ (ρ id) e') : Gam S fid X (σ.put id (some e')) a w ok ρ where
 defers := g.defers
 size := g.size
 env := g.env
 mem := by
  refine ⟨fun j e1 hj => ?_, fun j hj => ?_, g.mem.inj, fun j e1 b n s hj hr hb => ?_, g.mem.okl⟩
  · rw [St.ent_put] at hj
    by_cases hji : j = id
    · subst hji
      simp only [if_true, Option.some.injEq] at hj
      subst hj
      exact h
    · rw [if_neg hji] at hj; exact g.mem.live j e1 hj
  · rw [St.ent_put] at hj
    by_cases hji : j = id
    · subst hji; simp at hj
    · rw [if_neg hji] at hj; exact g.mem.gone j hj
  · rw [St.ent_put] at hj
    by_cases hji : j = id
    · subst hji
      simp only [if_true, Option.some.injEq] at hj
      subst hj
      exact g.mem.excl j e b n s he (hro ▸ hr) hb
    · rw [if_neg hji] at hj; exact g.mem.excl j e1 b n s hj hr hb
 okf := g.okf
 ownf := g.ownf
 fr := g.fr
 okm := g.okm
 xst := g.xst
theorem lookup_map_key {α β : Type} [BEq α] [LawfulBEq α] (g : α → β) (l : List α) (k : α) : (l.map fun i => (i, g i)).lookup k = if l.contains k then some (g k) else none := by
 induction l with
 | nil => simp
 | cons i l ih =>
  simp only [List.map_cons, List.lookup_cons, List.contains_cons]
  by_cases e : k = i
  · subst e; simp
  · have : (k == i) = false := by simpa using e
    simp only [this, Bool.false_or]
    exact ih
theorem Gam.keepOnly (g : Gam S fid X σ a w ok ρ) (ks : List Nat) (ids : List Id) :
 ∃ ρ', Gam S fid X (σ.keep ks ids) a w ok ρ' := by
 have hent : ∀ id, (σ.keep ks ids).ent id = if ids.contains id then (σ.ent id).map (Ent.ren (keepF ids)) else none := fun id => by
  unfold St.ent St.keep
  rw [lookup_map_key (fun i => (σ.ent i).map (Ent.ren (keepF ids))) ids id]
  split <;> rfl
 have hget : ∀ k, (σ.keep ks ids).get k = if ks.contains k then (σ.get k).ren (keepF ids) else .any := fun k => by
  unfold St.get St.keep
  rw [lookup_map_key (fun k => (σ.get k).ren (keepF ids)) ks k]
  split <;> rfl
 let ρ' : Id → Where := fun id => if ids.contains id then ρ id else .dead
 have hin : ∀ {id b n s}, ρ' id = .blk b n s → ids.contains id = true ∧ ρ id = .blk b n s := fun {id b n s} h => by
  simp only [ρ'] at h
  split at h
  · exact ⟨by assumption, h⟩
  · cases h
 have hren : ∀ id i, keepF ids id = some i → ρ' i = ρ id ∨ ρ' i = .dead := fun id i h => by
  simp only [keepF] at h
  split at h
  · rename_i hc; cases h; exact .inl (by simp only [ρ']; rw [if_pos hc])
  · cases h
 refine ⟨ρ', g.defers, g.size, fun k => ?_, ⟨fun id e he => ?_, fun id he => ?_, fun i j b n s n' s' hi hj => g.mem.inj i j b n s n' s' (hin hi).2 (hin hj).2, fun id e b n s he hr hb => ?_, g.mem.okl⟩, g.okf, fun id b n s hb => g.ownf id b n s (hin hb).2, g.fr, g.okm, fun j => ?_⟩
 · rw [hget]
   split
   · exact (g.env k).ren fun id i _ h => hren id i h
   · exact True.intro
 · rw [hent] at he
   split at he
   · rename_i hc
     rw [Option.map_eq_some_iff] at he
     obtain ⟨e', he', rfl⟩ := he
     have : ρ' id = ρ id := by simp only [ρ']; rw [if_pos hc]
     rw [this]
     exact (g.mem.live id e' he').ren fun id i _ h => hren id i h
   · cases he
 · rw [hent] at he
   simp only [ρ']
   split
   · rename_i hc
     rw [if_pos hc, Option.map_eq_none_iff] at he
     exact g.mem.gone id he
   · rfl
 · rw [hent] at he
   split at he
   · rw [Option.map_eq_some_iff] at he
     obtain ⟨e', he', rfl⟩ := he
     rw [Ent.ren_ro] at hr
     exact g.mem.excl id e' b n s he' hr (hin hb).2
   · cases he
 · simp only [ρ']
   split
   · exact g.xst j
   · exact .inr rfl
theorem exists_min {p : Nat → Prop} (h : ∃ n, p n) : ∃ n, p n ∧ ∀ m, p m → n ≤ m := by
 obtain ⟨n, hn⟩ := h
 induction n using Nat.strongRecOn with
 | _ n ih =>
  by_cases hc : ∃ m, m < n ∧ p m
  · obtain ⟨m, hm, hp⟩ := hc; exact ih m hm hp
  · exact ⟨n, hn, fun m hp => by
     rcases Nat.lt_or_ge m n with h | h
     · exact absurd ⟨m, h, hp⟩ hc
     · exact h⟩
theorem chkRegOps_spec {n : Nat} {ops : Array Oper} {is : List (Ins S.toTyS)} (h : chkRegOps S P fid n ops is = true) :
 is.length = ops.size ∧ ∀ (j : Nat) i, is[j]? = some i → ∃ o, ops[j]? = some o ∧ chkIns S P fid n ops o i = true := by
 simp only [chkRegOps, Bool.and_eq_true, decide_eq_true_eq, List.all_eq_true] at h
 refine ⟨h.1, fun j i hi => ?_⟩
 have := h.2 (i, j) (by rw [List.mem_zipIdx_iff_getElem?]; exact hi)
 simp only at this
 split at this
 · rename_i o ho; exact ⟨o, ho, this⟩
 · cases this
theorem Gam.redoCell (g : Gam S fid X σ a w ok ρ) {v : Id} {cs : List (C S.toTyS)} (hv : σ.ent v = some (.var cs)) {j : Nat} {x : C S.toTyS} (hcell : cs[j]? = some x)
 {σ2 : St S.toTyS} {ok2 : Nat → Prop} {ρ2 : Id → Where} {y : C S.toTyS} (g2 : Gam S fid X σ2 a w ok2 ρ2) (hv2 : σ2.ent v = some (.var cs)) (hρ : ρ2 v = ρ v)
 (hy : ∀ u, CRel S fid w ok ρ u x → CRel S fid w ok2 ρ2 u y) : Gam S fid X (σ2.put v (some (.var (cs.set j y)))) a w ok2 ρ2 := by
 refine g2.redoEnt hv2 rfl ?_
 have hl := g2.mem.live v _ hv2
 have hl0 := g.mem.live v _ hv
 rw [hρ] at hl ⊢
 cases hw : ρ v with
 | dead => rw [hw] at hl; exact hl.elim
 | empty => rw [hw] at hl; exact hl.elim
 | blk b n s =>
  rw [hw] at hl hl0
  obtain ⟨arr, t, h2, h3, h4, h5⟩ := hl
  obtain ⟨arr', t', h2', h3', h4', h5'⟩ := hl0
  rw [h2] at h2'
  cases h2'
  refine ⟨arr, t, h2, h3, by simp [h4], fun i u d hu hd => ?_⟩
  rw [List.getElem?_set] at hd
  split at hd
  · rename_i e
    subst e
    split at hd
    · cases hd; exact hy u (h5' _ _ _ hu hcell)
    · cases hd
  · exact h5 i u d hu hd
theorem nil_isl {c : S.Ty} {u : Value} (h : CRel S fid w ok ρ u (.nils : C S.toTyS)) : CRel S fid w ok ρ u (.isl c []) :=
 h.le (.inr ⟨rfl, c, rfl⟩)
theorem snd_P (p : Ps S.toTyS) {K : St S.toTyS → Prop} (g : Gam S fid X σ a w ok ρ) (hk : p.vc σ K) : ∃ σ' ok' ρ', K σ' ∧ Gam S fid X σ' a w ok' ρ' := by
 cases p with
 | keep ks ids =>
  obtain ⟨ρ', g'⟩ := g.keepOnly ks ids
  exact ⟨_, _, _, hk, g'⟩
 | own k j cc id =>
  simp only [Ps.vc] at hk
  split at hk
  · rename_i hcell
    obtain ⟨hxf, hk⟩ := chk_iff.1 hk
    simp only [Bool.and_eq_true] at hxf
    obtain ⟨hx, hf⟩ := hxf
    have hx' : ∀ j, id ≠ .x j := by rintro j rfl; cases hx
    have g2 := g.newEmpty hx' hf cc
    refine ⟨_, _, _, hk, g2.redo ?_⟩
    obtain ⟨u, hu, hset⟩ := D.cell_rel (g.env k) hcell
    refine hset _ _ _ (fun b hb => hb) (fun _ _ _ _ => trivial) (updW_stays (St.fresh_get hf k)) ?_
    simp only [CRel, updW_same] at hu ⊢
    exact ⟨trivial, trivial, hu⟩
  · rename_i i off len hcell
    rw [bsel_iff] at hk
    obtain ⟨hk1, hk2⟩ := hk
    by_cases hi : i = id
    · exact ⟨_, _, _, hk1 (decide_eq_true hi), g⟩
    have hk := hk2 (decide_eq_false hi)
    obtain ⟨hxf, hk⟩ := chk_iff.1 hk
    simp only [Bool.and_eq_true] at hxf
    obtain ⟨hx, hf⟩ := hxf
    have hx' : ∀ j, id ≠ .x j := by rintro j rfl; cases hx
    split at hk
    case h_2 => exact hk.elim
    rename_i ro c' xs hid
    have g2 := g.rename hx' hid hf
    refine ⟨_, _, _, hk, g2.redo ?_⟩
    obtain ⟨u, hu, hset⟩ := D.cell_rel (g.env k) hcell
    refine hset _ _ _ (fun b hb => hb) (fun _ _ _ _ => trivial) (fun q hq => ?_) ?_
    · have hqn : q ≠ id := fun e => St.fresh_get hf k (e ▸ hq)
      rw [updW_ne hqn]
      by_cases e : q = i
      · subst e; exact .inr (updW_same _ _ _)
      · exact .inl (updW_ne e)
    · simp only [CRel, updW_same] at hu ⊢
      exact hu
  · exact hk.elim
 | ownc v j cc id =>
  simp only [Ps.vc] at hk
  split at hk
  case h_2 => exact hk.elim
  rename_i cs hv
  split at hk
  · rename_i hcell
    obtain ⟨hxf, hk⟩ := chk_iff.1 hk
    simp only [Bool.and_eq_true] at hxf
    obtain ⟨hx, hf⟩ := hxf
    have hx' : ∀ j, id ≠ .x j := by rintro j rfl; cases hx
    have hvid : v ≠ id := by rintro rfl; rw [St.fresh_none hf] at hv; cases hv
    have g2 := g.newEmpty hx' hf cc
    refine ⟨_, _, _, hk, g.redoCell hv hcell g2 (by rw [St.ent_put, if_neg hvid]; exact hv) (updW_ne hvid) fun u hu => ?_⟩
    simp only [CRel, updW_same] at hu ⊢
    exact ⟨trivial, trivial, hu⟩
  · rename_i i off len hcell
    rw [bsel_iff] at hk
    obtain ⟨hk1, hk2⟩ := hk
    by_cases hi : i = id
    · exact ⟨_, _, _, hk1 (decide_eq_true hi), g⟩
    have hk := hk2 (decide_eq_false hi)
    obtain ⟨hxf, hk⟩ := chk_iff.1 hk
    simp only [Bool.and_eq_true] at hxf
    obtain ⟨hx, hf⟩ := hxf
    have hx' : ∀ j, id ≠ .x j := by rintro j rfl; cases hx
    have hvid : v ≠ id := by rintro rfl; rw [St.fresh_none hf] at hv; cases hv
    split at hk
    case h_2 => exact hk.elim
    rename_i ro c' xs hid
    obtain ⟨hvi, hk⟩ := chk_iff.1 hk
    replace hvi : v ≠ i := of_decide_eq_true hvi
    have g2 := g.rename hx' hid hf
    refine ⟨_, _, _, hk, g.redoCell hv hcell g2 (by rw [St.ent_put, if_neg hvid, St.ent_put, if_neg hvi]; exact hv) (by rw [updW_ne hvid, updW_ne hvi]) fun u hu => ?_⟩
    simp only [CRel, updW_same] at hu ⊢
    exact hu
  · exact hk.elim
 | frz k j cc =>
  simp only [Ps.vc] at hk
  split at hk
  · rename_i hcell
    refine ⟨_, _, _, hk, g.redo ?_⟩
    obtain ⟨u, hu, hset⟩ := D.cell_rel (g.env k) hcell
    exact hset _ _ _ (fun b hb => hb) (fun _ _ _ _ => trivial) (.refl _ _) (nil_isl hu)
  · exact ⟨_, _, _, hk, g⟩
  · rename_i id off len hcell
    split at hk
    case h_2 => exact hk.elim
    rename_i ro c' xs hid
    obtain ⟨h0, hlen, hk3⟩ := chk_iff.1 hk
    clear hk
    replace h0 : off = 0 := of_decide_eq_true h0
    subst h0
    have g2 := g.freeze hid
    refine ⟨_, _, _, hk3, g2.redo ?_⟩
    obtain ⟨u, hu, hset⟩ := D.cell_rel (g.env k) hcell
    refine hset _ _ _ (fun b hb => .inl hb) (fun _ _ _ _ => trivial) (.refl _ _) ?_
    have := g2.frozen_rel (ro := true) (off := 0) (by rw [St.ent_put, if_pos rfl]) (fun b n s hb => .inr ⟨n, s, hb⟩) (by omega) (hu.mono (fun _ _ => rfl) (fun b hb => .inl hb) (.refl _ _))
    rwa [hlen, List.drop_zero, List.take_length] at this
  · exact hk.elim
 | frzc v j cc =>
  simp only [Ps.vc] at hk
  split at hk
  case h_2 => exact hk.elim
  rename_i cs hv
  split at hk
  · rename_i hcell
    exact ⟨_, _, _, hk, g.redoCell hv hcell g hv rfl fun u hu => nil_isl hu⟩
  · exact ⟨_, _, _, hk, g⟩
  · rename_i id off len hcell
    split at hk
    case h_2 => exact hk.elim
    rename_i ro c' xs hid
    obtain ⟨h0, hlen, hk2⟩ := chk_iff.1 hk
    obtain ⟨hne, hk3⟩ := chk_iff.1 hk2
    clear hk hk2
    replace h0 : off = 0 := of_decide_eq_true h0
    replace hne : v ≠ id := of_decide_eq_true hne
    subst h0
    have g2 := g.freeze hid
    have hv2 : (σ.put id (some (.row true c' xs))).ent v = some (.var cs) := by rw [St.ent_put, if_neg hne]; exact hv
    refine ⟨_, _, _, hk3, g.redoCell hv hcell g2 hv2 rfl fun u hu => ?_⟩
    have := g2.frozen_rel (ro := true) (off := 0) (by rw [St.ent_put, if_pos rfl]) (fun b n s hb => .inr ⟨n, s, hb⟩) (by omega) (hu.mono (fun _ _ => rfl) (fun b hb => .inl hb) (.refl _ _))
    rwa [hlen, List.drop_zero, List.take_length] at this
  · exact hk.elim
theorem snd_Ps : ∀ (ps : List (Ps S.toTyS)) {σ : St S.toTyS} {ok : Nat → Prop} {ρ : Id → Where} {K : St S.toTyS → Prop}, Gam S fid X σ a w ok ρ → vcPs ps σ K → ∃ σ' ok' ρ', K σ' ∧ Gam S fid X σ' a w ok' ρ'
 | [], σ, ok, ρ, K, g, hk => ⟨σ, ok, ρ, hk, g⟩
 | p :: ps, σ, ok, ρ, K, g, hk => by
  obtain ⟨σ', ok', ρ', h1, g1⟩ := snd_P p g hk
  exact snd_Ps ps g1 h1
theorem snd_segs {n : Nat} (hXn : X.n = n) {ops : Array Oper} {last : List (Ins S.toTyS)} {Q : Exit → Act → World → Prop} : ∀ (segs : List (List (Ins S.toTyS) × List Nat × List Id)) (l : List Nat) (σ : St S.toTyS) (a : Act) (w : World) (ok : Nat → Prop) (ρ : Id → Where) (K : St S.toTyS → Prop),
 l.length = (segs.flatMap (·.1) ++ last).length → (∀ (j idx : Nat) i, l[j]? = some idx → (segs.flatMap (·.1) ++ last)[j]? = some i → ∃ o, ops[idx]? = some o ∧ chkIns S P fid n ops o i = true) →
 Gam S fid X σ a w ok ρ → vcSegs (Spec S P fid) last segs σ K → (∀ σ' a' w' ok' ρ', K σ' → Gam S fid X σ' a' w' ok' ρ' → Q .normal a' w') → wpOps P ops Q l a w
 | [], l, σ, a, w, ok, ρ, K, hl, hc, g, hk, hQ => snd_ops hXn last l σ a w ok ρ K hl hc g hk hQ
 | (is, ks, ids) :: rest, l, σ, a, w, ok, ρ, K, hl, hc, g, hk, hQ => by
  obtain ⟨J, hk1, hk2⟩ := hk
  rw [List.flatMap_cons, List.append_assoc] at hl hc
  dsimp only at hl hc
  have hlen : is.length ≤ l.length := by rw [hl, List.length_append]; omega
  rw [← List.take_append_drop is.length l]
  refine snd_opsA hXn (l.drop is.length) is (l.take is.length) σ a w ok ρ _ (by simp; omega) (fun j idx i hj hi => ?_) g hk1 (fun σ' a' w' ok' ρ' hJ g' => ?_)
  · have hji := (List.getElem?_eq_some_iff.1 hi).1
    refine hc j idx i ?_ ?_
    · rw [List.getElem?_take, if_pos hji] at hj
      exact hj
    · rw [List.getElem?_append_left hji]; exact hi
  · obtain ⟨ρ2, g2⟩ := g'.keepOnly ks ids
    refine snd_segs hXn rest (l.drop is.length) _ a' w' ok' ρ2 K (by rw [List.length_drop, hl, List.length_append]; omega) (fun j idx i hj hi => ?_) g2 (hk2 _ hJ) hQ
    rw [List.getElem?_drop] at hj
    refine hc (is.length + j) idx i hj ?_
    rw [List.getElem?_append_right (by omega)]
    rw [show is.length + j - is.length = j by omega]
    exact hi
theorem snd_C {n : Nat} (hXn : X.n = n) (hmx : P.follows .mixedOrders = true) : ∀ (i : IC S.toTyS) (c : Code) (σ : St S.toTyS) (a : Act) (w : World) (ok : Nat → Prop) (ρ : Id → Where) (K : Ex → St S.toTyS → Prop),
 chkC S P fid n i c = true → vcC (Spec S P fid) i σ K → Gam S fid X σ a w ok ρ → c.wp P (PostC S fid X K) a w := by
 intro i
 induction i with
 | skip =>
  intro c σ a w ok ρ K hc hk g
  cases c <;> simp [chkC] at hc
  exact wp_skip ⟨σ, ok, ρ, hk, g⟩
 | reg is =>
  intro c σ a w ok ρ K hc hk g
  cases c <;> try (simp [chkC] at hc; done)
  rename_i id ops dr
  cases dr
  case true => simp [chkC] at hc
  replace hc : chkRegOps S P fid n ops is = true := hc
  obtain ⟨h1, h2⟩ := chkRegOps_spec hc
  refine wp_region (snd_ops hXn is (List.range ops.size) σ a w ok ρ (K .nrm) (by simp [h1]) (fun j idx i hj hi => ?_) g hk (fun σ' a' w' ok' ρ' hK hg => ⟨σ', ok', ρ', hK, hg⟩))
  rw [List.getElem?_range (by have := (List.getElem?_eq_some_iff.1 hi).1; omega)] at hj
  cases hj
  exact h2 _ i hi
 | drw M ord late fl is =>
  intro c σ a w ok ρ K hc hk g
  cases c <;> try (simp [chkC] at hc; done)
  rename_i id ops dr
  cases dr
  case false => simp [chkC] at hc
  unfold chkC at hc
  simp only [Bool.and_eq_true, decide_eq_true_eq] at hc
  obtain ⟨⟨h0, h1⟩, h3⟩ := hc
  obtain ⟨h4, h5⟩ := chkRegOps_spec h0
  have := snd_ord hXn h1 (Q := PostC S fid X K) PostC.noPan h5 ord _ _ σ a _ ok ρ (K .nrm) h3 g.drew hk (fun σ' a' w' ok' ρ' hK hg => ⟨σ', ok', ρ', hK, hg⟩)
  exact wp_region_any hmx (wpAny_of_T _ _ _ _ this)
 | seq x y ihx ihy =>
  intro c σ a w ok ρ K hc hk g
  cases c <;> simp [chkC] at hc
  rename_i cx cy
  refine wp_seq (wp_mono (ihx cx σ a w ok ρ _ hc.1 hk g) fun e a' w' h => ?_)
  cases e with
  | normal => obtain ⟨σ', ok', ρ', h1, h2⟩ := h; exact ihy cy σ' a' w' ok' ρ' K hc.2 h1 h2
  | exit id => exact h
  | goto l => exact h
  | ret => exact h
  | panic ch => exact h
  | outgrown => exact h
 | cond k x y ihx ihy =>
  intro c σ a w ok ρ K hc hk g
  cases c <;> try (simp [chkC] at hc; done)
  rename_i op cx cy
  cases op <;> try (simp [chkC] at hc; done)
  unfold chkC at hc
  simp only [Bool.and_eq_true, decide_eq_true_eq] at hc
  obtain ⟨⟨he, h1⟩, h2⟩ := hc
  simp only [vcC] at hk
  split at hk
  case h_2 => exact hk.elim
  rename_i t ht
  have hr := g.env k
  rw [ht, ← he] at hr
  exact wp_cond_split (t := t) hr (fun e => ihx cx σ a w ok ρ K h1 ((bsel_iff.1 hk).1 e) g) (fun e => ihy cy σ a w ok ρ K h2 ((bsel_iff.1 hk).2 e) g)
 | condc t x y ihx ihy =>
  intro c σ a w ok ρ K hc hk g
  cases c <;> try (simp [chkC] at hc; done)
  rename_i op cx cy
  cases op <;> try (simp [chkC] at hc; done)
  rename_i v
  cases v <;> try (simp [chkC] at hc; done)
  unfold chkC at hc
  simp only [Bool.and_eq_true, decide_eq_true_eq] at hc
  obtain ⟨rfl, hc⟩ := hc
  rename_i u
  refine wp_cond_split (t := u) rfl (fun e => ?_) (fun e => ?_)
  · subst e; exact ihx cx σ a w ok ρ K hc hk g
  · subst e; exact ihy cy σ a w ok ρ K hc hk g
 | block id x ih =>
  intro c σ a w ok ρ K hc hk g
  cases c <;> simp [chkC] at hc
  rename_i j cx
  obtain ⟨rfl, h1⟩ := hc
  refine wp_block (wp_mono (ih cx σ a w ok ρ _ h1 hk g) fun e a' w' h => ?_)
  cases e with
  | exit i =>
   obtain ⟨σ', ok', ρ', h1, h2⟩ := h
   simp only [Exit.inBlock]
   simp only at h1
   split
   · rename_i e; rw [if_pos e] at h1; exact ⟨σ', ok', ρ', h1, h2⟩
   · rename_i e; rw [if_neg e] at h1; exact ⟨σ', ok', ρ', h1, h2⟩
  | normal => exact h
  | goto l => exact h
  | ret => exact h
  | panic ch => exact h
  | outgrown => exact h
 | loop x ih =>
  intro c σ a w ok ρ K hc hk g
  cases c <;> simp [chkC] at hc
  rename_i cx
  simp only [vcC] at hk
  obtain ⟨I, ⟨n0, hI⟩, hround⟩ := hk
  let p : Act → World → Nat → Prop := fun a w n => ∃ σ ok ρ, I σ n ∧ Gam S fid X σ a w ok ρ
  have hmin : ∀ a w, ∃ m : Nat, (∃ n, p a w n) → p a w m ∧ ∀ n, p a w n → m ≤ n := fun a w => by
   by_cases h : ∃ n, p a w n
   · obtain ⟨m, h1⟩ := exists_min h; exact ⟨m, fun _ => h1⟩
   · exact ⟨0, fun h' => absurd h' h⟩
  have hμ : ∃ μ : Act → World → Nat, ∀ a w, (∃ n, p a w n) → p a w (μ a w) ∧ ∀ n, p a w n → μ a w ≤ n :=
   ⟨fun a w => Classical.choose (hmin a w), fun a w => Classical.choose_spec (hmin a w)⟩
  obtain ⟨μ, hμ⟩ := hμ
  refine wp_loop (fun a w => ∃ n, p a w n) μ ⟨n0, σ, ok, ρ, hI, g⟩ fun a w h => ?_
  obtain ⟨⟨σ1, ok1, ρ1, hI1, g1⟩, _⟩ := hμ a w h
  refine wp_mono (ih cx σ1 a w ok1 ρ1 _ hc (hround σ1 _ hI1) g1) fun e a' w' h => ?_
  cases e with
  | normal =>
   obtain ⟨σ', ok', ρ', ⟨n', hlt, hI'⟩, h2⟩ := h
   have hp : p a' w' n' := ⟨σ', ok', ρ', hI', h2⟩
   exact ⟨⟨n', hp⟩, Nat.lt_of_le_of_lt ((hμ a' w' ⟨n', hp⟩).2 n' hp) hlt⟩
  | exit id => exact h
  | goto l => exact h
  | ret => exact h
  | panic ch => exact h
  | outgrown => exact h
 | exit id =>
  intro c σ a w ok ρ K hc hk g
  cases c <;> simp [chkC] at hc
  subst hc
  exact wp_exit ⟨σ, ok, ρ, hk, g⟩
 | ret =>
  intro c σ a w ok ρ K hc hk g
  cases c <;> simp [chkC] at hc
  exact wp_ret ⟨σ, ok, ρ, hk, g⟩
 | fz k j rest ih =>
  intro c σ a w ok ρ K hc hk g
  simp only [chkC] at hc
  simp only [vcC] at hk
  split at hk
  case h_2 => exact hk.elim
  rename_i id off len hcell
  split at hk
  case h_2 => exact hk.elim
  rename_i ro c' xs hid
  have g2 := g.freeze hid
  refine ih c _ a w _ ρ K hc hk.2 (g2.redo ?_)
  obtain ⟨u, hu, hset⟩ := D.cell_rel (g.env k) hcell
  refine hset _ _ _ (fun b hb => .inl hb) (fun _ _ _ _ => trivial) (.refl _ _) ?_
  exact g2.frozen_rel (ro := true) (by rw [St.ent_put, if_pos rfl]) (fun b n s hb => .inr ⟨n, s, hb⟩) hk.1 (hu.mono (fun _ _ => rfl) (fun b hb => .inl hb) (.refl _ _))
 | fzc v j rest ih =>
  intro c σ a w ok ρ K hc hk g
  simp only [chkC] at hc
  simp only [vcC] at hk
  split at hk
  case h_2 => exact hk.elim
  rename_i cs hv
  split at hk
  case h_2 => exact hk.elim
  rename_i id off len hcell
  split at hk
  case h_2 => exact hk.elim
  rename_i ro c' xs hid
  obtain ⟨h1, hk⟩ := hk
  obtain ⟨hne, hk⟩ := chk_iff.1 hk
  replace hne : v ≠ id := of_decide_eq_true hne
  have g2 := g.freeze hid
  have hv2 : (σ.put id (some (.row true c' xs))).ent v = some (.var cs) := by rw [St.ent_put, if_neg hne]; exact hv
  refine ih c _ a w _ ρ K hc hk (g2.redoEnt hv2 rfl ?_)
  have hl := g2.mem.live v _ hv2
  cases hw : ρ v with
  | dead => rw [hw] at hl; exact hl.elim
  | empty => rw [hw] at hl; exact hl.elim
  | blk b n s =>
   rw [hw] at hl
   obtain ⟨arr, t, h2, h3, h4, h5⟩ := hl
   refine ⟨arr, t, h2, h3, by simp [h4], fun i u d hu hd => ?_⟩
   rw [List.getElem?_set] at hd
   split at hd
   · rename_i e
     subst e
     split at hd
     · cases hd
       exact g2.frozen_rel (ro := true) (by rw [St.ent_put, if_pos rfl]) (fun b n s hb => .inr ⟨n, s, hb⟩) h1 (h5 _ _ _ hu hcell)
     · cases hd
   · exact h5 i u d hu hd
 | tab id cc rest ih =>
  intro c σ a w ok ρ K hc hk g
  simp only [chkC] at hc
  simp only [vcC] at hk
  split at hk
  case h_2 => exact hk.elim
  rename_i c2 xs hid
  obtain ⟨rows, hrows, hsz, hne, hk⟩ := hk
  refine ih c _ a w _ ρ K hc hk (g.redoEnt hid rfl ?_)
  have hl := g.mem.live id _ hid
  cases hw : ρ id with
  | dead => rw [hw] at hl; exact hl.elim
  | empty => rw [hw] at hl; exact absurd hl hne
  | blk b n s =>
   rw [hw] at hl
   obtain ⟨h1, arr, t, h2, h3, h4, h5⟩ := hl
   have hlen : xs.length = rows.length := by simpa using congrArg List.length hrows
   refine ⟨h1.trans hsz, arr, t, h2, h3, by rw [h1, hsz] at h4; omega, fun j r hr => ?_⟩
   have hj : (xs.map (S.row c2))[j]? = some [C.isl cc r] := by rw [hrows, List.getElem?_map, hr]; rfl
   rw [List.getElem?_map, Option.map_eq_some_iff] at hj
   obtain ⟨x, hx, hxr⟩ := hj
   obtain ⟨u, hu, hi⟩ := h5 j x 0 (C.isl cc r) hx (by rw [hxr]; rfl)
   exact ⟨u, by rw [h1, hsz] at hu; simpa using hu, hi.crel⟩
 | untab id c2 rest ih =>
  intro c σ a w ok ρ K hc hk g
  simp only [chkC] at hc
  simp only [vcC] at hk
  split at hk
  case h_2 => exact hk.elim
  rename_i cc rows hid
  obtain ⟨xs, hrows, hsz, hk⟩ := hk
  refine ih c _ a w _ ρ K hc hk (g.redoEnt hid rfl ?_)
  have hl := g.mem.live id _ hid
  cases hw : ρ id with
  | dead => rw [hw] at hl; exact hl.elim
  | empty => rw [hw] at hl; exact hl.elim
  | blk b n s =>
   rw [hw] at hl
   obtain ⟨h1, arr, t, h2, h3, h4, h5⟩ := hl
   have hlen : xs.length = rows.length := by simpa using congrArg List.length hrows
   refine ⟨h1.trans hsz.symm, arr, t, h2, h3, by rw [h1]; omega, fun i x j d hx hd => ?_⟩
   have hj : (rows.map fun r => [C.isl cc r])[i]? = some (S.row c2 x) := by rw [← hrows, List.getElem?_map, hx]; rfl
   rw [List.getElem?_map, Option.map_eq_some_iff] at hj
   obtain ⟨r, hr, hxr⟩ := hj
   rw [← hxr] at hd
   cases j with
   | succ j => simp at hd
   | zero =>
    simp at hd
    subst hd
    obtain ⟨u, hu, hi⟩ := h5 i r hr
    exact ⟨u, by rw [h1]; simpa using hu, hi⟩
 | fzt v rest ih =>
  intro c σ a w ok ρ K hc hk g
  simp only [chkC] at hc
  simp only [vcC] at hk
  split at hk
  case h_2 => exact hk.elim
  rename_i cc rows j id len hv
  split at hk
  case h_2 => exact hk.elim
  rename_i ro c' xs hid
  obtain ⟨hne, h1, rfl, hk⟩ := chk_iff.1 hk
  replace hne : v ≠ id := of_decide_eq_true hne
  have g2 := g.freeze hid
  have hv2 : (σ.put id (some (.row true c' xs))).ent v = some (.tab c' rows (some (j, some (id, len)))) := by rw [St.ent_put, if_neg hne]; exact hv
  refine ih c _ a w _ ρ K hc hk (g2.redoEnt hv2 rfl ?_)
  have hl := g2.mem.live v _ hv2
  cases hw : ρ v with
  | dead => rw [hw] at hl; exact hl.elim
  | empty => rw [hw] at hl; exact hl.elim
  | blk b n s =>
   rw [hw] at hl
   obtain ⟨h6, arr, t, h2, h3, h4, h5⟩ := hl
   refine ⟨h6, arr, t, h2, h3, by simpa using h4, fun i r hr => ?_⟩
   rw [List.getElem?_set] at hr
   split at hr
   · rename_i e
     subst e
     split at hr
     · rename_i hlt
       cases hr
       obtain ⟨u, hu, hi⟩ := h5 j _ (List.getElem?_eq_getElem hlt)
       refine ⟨u, hu, ?_⟩
       simp only [tabC, if_true] at hi
       have := g2.frozen_rel (ro := true) (off := 0) (by rw [St.ent_put, if_pos rfl]) (fun b n s hb => .inr ⟨n, s, hb⟩) (by omega) hi
       simpa [tabC] using this
     · cases hr
   · rename_i e
     obtain ⟨u, hu, hi⟩ := h5 i r hr
     refine ⟨u, hu, ?_⟩
     simp only [tabC] at hi ⊢
     rwa [if_neg (Ne.symm e)] at hi
 | own k cc id rest ih =>
  intro c σ a w ok ρ K hc hk g
  simp only [chkC] at hc
  simp only [vcC] at hk
  obtain ⟨hxf, hk⟩ := chk_iff.1 hk
  simp only [Bool.and_eq_true] at hxf
  obtain ⟨hx, hf⟩ := hxf
  have hx' : ∀ j, id ≠ .x j := by rintro j rfl; cases hx
  split at hk
  · rename_i hq
    have g2 := g.newEmpty hx' hf cc
    refine ih c _ a w _ _ K hc hk (g2.redo ?_)
    have hr := g.env k
    rw [hq] at hr
    simp only [DRel, DRel1, CRel, updW_same]
    exact ⟨trivial, trivial, hr⟩
  · rename_i i off len hq
    split at hk
    case h_2 => exact hk.elim
    rename_i ro c' xs hid
    have g2 := g.rename hx' hid hf
    refine ih c _ a w _ _ K hc hk (g2.redo ?_)
    have hr := g.env k
    rw [hq] at hr
    simp only [DRel, DRel1, CRel, updW_same] at hr ⊢
    exact hr
  · exact hk.elim
 | ownc v j cc id rest ih =>
  intro c σ a w ok ρ K hc hk g
  simp only [chkC] at hc
  simp only [vcC] at hk
  obtain ⟨hxf, hk⟩ := chk_iff.1 hk
  simp only [Bool.and_eq_true] at hxf
  obtain ⟨hx, hf⟩ := hxf
  have hx' : ∀ j, id ≠ .x j := by rintro j rfl; cases hx
  split at hk
  case h_2 => exact hk.elim
  rename_i cs hv
  have hvid : v ≠ id := by rintro rfl; rw [St.fresh_none hf] at hv; cases hv
  have fin : ∀ {σ2 : St S.toTyS} {ρ2 : Id → Where} {y x : C S.toTyS}, Gam S fid X σ2 a w ok ρ2 → σ2.ent v = some (.var cs) → ρ2 v = ρ v → cs[j]? = some x → (∀ u, CRel S fid w ok ρ u x → CRel S fid w ok ρ2 u y) →
   Gam S fid X (σ2.put v (some (.var (cs.set j y)))) a w ok ρ2 := by
   intro σ2 ρ2 y x g2 hv2 hρ hcell hy
   refine g2.redoEnt hv2 rfl ?_
   have hl := g2.mem.live v _ hv2
   have hl0 := g.mem.live v _ hv
   rw [hρ] at hl ⊢
   cases hw : ρ v with
   | dead => rw [hw] at hl; exact hl.elim
   | empty => rw [hw] at hl; exact hl.elim
   | blk b n s =>
    rw [hw] at hl hl0
    obtain ⟨arr, t, h2, h3, h4, h5⟩ := hl
    obtain ⟨arr', t', h2', h3', h4', h5'⟩ := hl0
    rw [h2] at h2'
    cases h2'
    refine ⟨arr, t, h2, h3, by simp [h4], fun i u d hu hd => ?_⟩
    rw [List.getElem?_set] at hd
    split at hd
    · rename_i e
      subst e
      split at hd
      · cases hd; exact hy u (h5' _ _ _ hu hcell)
      · cases hd
    · exact h5 i u d hu hd
  split at hk
  · rename_i hq
    have g2 := g.newEmpty hx' hf cc
    refine ih c _ a w _ _ K hc hk (fin g2 (by rw [St.ent_put, if_neg hvid]; exact hv) (updW_ne hvid) hq fun u hu => ?_)
    simp only [CRel, updW_same] at hu ⊢
    exact ⟨trivial, trivial, hu⟩
  · rename_i i off len hq
    split at hk
    case h_2 => exact hk.elim
    rename_i ro c' xs hid
    obtain ⟨hvi, hk⟩ := chk_iff.1 hk
    replace hvi : v ≠ i := of_decide_eq_true hvi
    have g2 := g.rename hx' hid hf
    refine ih c _ a w _ _ K hc hk (fin g2 (by rw [St.ent_put, if_neg hvid, St.ent_put, if_neg hvi]; exact hv) (by rw [updW_ne hvid, updW_ne hvi]) hq fun u hu => ?_)
    simp only [CRel, updW_same] at hu ⊢
    exact hu
  · exact hk.elim
 | keep ks ids rest ih =>
  intro c σ a w ok ρ K hc hk g
  simp only [chkC] at hc
  simp only [vcC] at hk
  obtain ⟨ρ', g'⟩ := g.keepOnly ks ids
  exact ih c _ a w ok ρ' K hc hk g'
 | pre ps x ih =>
  intro c σ a w ok ρ K hc hk g
  simp only [chkC] at hc
  simp only [vcC] at hk
  obtain ⟨σ', ok', ρ', h1, g1⟩ := snd_Ps ps g hk
  exact ih c σ' a w ok' ρ' K hc h1 g1
 | aft x ps ih =>
  intro c σ a w ok ρ K hc hk g
  simp only [chkC] at hc
  simp only [vcC] at hk
  refine wp_mono (ih c σ a w ok ρ _ hc hk g) fun e a' w' h => ?_
  cases e with
  | normal => obtain ⟨σ', ok', ρ', h1, h2⟩ := h; exact snd_Ps ps h2 h1
  | exit id => exact h
  | goto l => exact h
  | ret => exact h
  | panic ch => exact h
  | outgrown => exact h
 | regc segs last =>
  intro c σ a w ok ρ K hc hk g
  cases c <;> try (simp [chkC] at hc; done)
  rename_i id ops dr
  cases dr
  case true => simp [chkC] at hc
  replace hc : chkRegOps S P fid n ops (segs.flatMap (·.1) ++ last) = true := hc
  obtain ⟨h1, h2⟩ := chkRegOps_spec hc
  refine wp_region (snd_segs hXn segs (List.range ops.size) σ a w ok ρ (K .nrm) (by simp [h1]) (fun j idx i hj hi => ?_) g hk (fun σ' a' w' ok' ρ' hK hg => ⟨σ', ok', ρ', hK, hg⟩))
  rw [List.getElem?_range (by have := (List.getElem?_eq_some_iff.1 hi).1; omega)] at hj
  cases hj
  exact h2 _ i hi
 | cut1 ks ids x ih =>
  intro c σ a w ok ρ K hc hk g
  simp only [chkC] at hc
  simp only [vcC] at hk
  obtain ⟨J, hk1, hk2⟩ := hk
  refine wp_mono (ih c σ a w ok ρ _ hc hk1 g) fun e a' w' h => ?_
  cases e with
  | normal =>
   obtain ⟨σ', ok', ρ', h1, h2⟩ := h
   obtain ⟨ρ2, g2⟩ := h2.keepOnly ks ids
   exact ⟨_, ok', ρ2, hk2 _ h1, g2⟩
  | exit id => exact h
  | goto l => exact h
  | ret => exact h
  | panic ch => exact h
  | outgrown => exact h
 | cut ks ids x y ihx ihy =>
  intro c σ a w ok ρ K hc hk g
  cases c <;> simp [chkC] at hc
  rename_i cx cy
  simp only [vcC] at hk
  obtain ⟨J, hk1, hk2⟩ := hk
  refine wp_seq (wp_mono (ihx cx σ a w ok ρ _ hc.1 hk1 g) fun e a' w' h => ?_)
  cases e with
  | normal =>
   obtain ⟨σ', ok', ρ', h1, h2⟩ := h
   obtain ⟨ρ2, g2⟩ := h2.keepOnly ks ids
   exact ihy cy _ a' w' ok' ρ2 K hc.2 (hk2 _ h1) g2
  | exit id => exact h
  | goto l => exact h
  | ret => exact h
  | panic ch => exact h
  | outgrown => exact h
 | dead =>
  intro c σ a w ok ρ K hc hk g
  simp only [vcC] at hk
end Go.Clap
