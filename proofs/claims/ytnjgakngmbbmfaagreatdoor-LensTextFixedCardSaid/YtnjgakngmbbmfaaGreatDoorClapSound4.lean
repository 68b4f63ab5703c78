/- The checks of the small code against the loaded functions. -/
import Derived.Test.YtnjgakngmbbmfaaGreatDoorClapSound3
set_option linter.unusedVariables false
set_option linter.unusedSimpArgs false
namespace Go.Clap
variable {S : Sig} {fid : Nat → FuncId} {P : Program} {X : Ctx S} {σ : St S.toTyS} {a : Act} {w : World} {ok : Nat → Prop} {ρ : Id → Where}
variable {o : Oper} {next : Act → World → Prop} {Q : Exit → Act → World → Prop} {K : D S.toTyS → St S.toTyS → Prop} {O : Oracle S.toTyS} {T : Id → Prop}
theorem splice_length {α : Type} {l xs : List α} {off : Nat} (h : off + xs.length ≤ l.length) : (splice l off xs).length = l.length := by
 simp [splice]; omega
theorem splice_get {α : Type} {l xs : List α} {off : Nat} (h : off + xs.length ≤ l.length) (j : Nat) :
 (splice l off xs)[j]? = if off ≤ j ∧ j < off + xs.length then xs[j - off]? else l[j]? := by
 unfold splice
 rw [List.append_assoc, List.getElem?_append, List.getElem?_append]
 simp only [List.length_take, List.getElem?_drop, List.getElem?_take]
 have h1 : min off l.length = off := by omega
 rw [h1]
 by_cases h2 : j < off
 · rw [if_pos h2, if_pos h2, if_neg (by omega)]
 · rw [if_neg h2]
   by_cases h3 : j - off < xs.length
   · rw [if_pos h3, if_pos (by omega)]
   · rw [if_neg h3, if_neg (by omega)]
     congr 1; omega
theorem LRel.splice {vs xs : List Value} {cs ys : List (C S.toTyS)} {off : Nat} (h : LRel S fid w ok ρ vs cs) (h' : LRel S fid w ok ρ xs ys) (hl : off + ys.length ≤ cs.length) :
 LRel S fid w ok ρ (splice vs off xs) (splice cs off ys) := by
 have e1 := h.1
 have e2 := h'.1
 refine ⟨by rw [splice_length (by omega), splice_length hl]; exact e1, fun i v c hv hc => ?_⟩
 rw [splice_get (by omega)] at hv
 rw [splice_get hl] at hc
 rw [e2] at hv
 split at hv
 · rename_i hi
   rw [if_pos hi] at hc
   exact h'.2 _ _ _ hv hc
 · rename_i hi
   rw [if_neg hi] at hc
   exact h.2 _ _ _ hv hc
theorem store_gen {ty : TypeId} {n b off : Nat} {arr : Array Value} {t : TypeId} {v : Value} (hsz : szOf P ty = some n) (hn : v.cells.size = n) (h1 : ∀ u ∈ v.cells.toList, u.oneCell' = true)
 (hh : w.heap[b]? = some (.cells arr t (0, 0))) (hl : off + n ≤ arr.size) :
 (storeVar ty ⟨b, off, none⟩ v).run P w = .ok () (w.setRow b (splice arr.toList off v.cells.toList).toArray) := by
 have hrun := run_storeCells_at P b off t v.cells.toList 0 arr w hh (by simp; omega) h1
 simp only [Nat.add_zero] at hrun
 simp [storeVar, run_sizeOf_of (w := w) hsz, hn, hrun, Clap.splice]
theorem setRow_get {b : Nat} {arr arr' : Array Value} {t : TypeId} {fr : Nat × Nat} (hh : w.heap[b]? = some (.cells arr t fr)) : (w.setRow b arr').heap[b]? = some (.cells arr' t fr) :=
 setRow_heap w b arr arr' t fr hh
theorem setRow_other {b b' : Nat} {arr' : Array Value} (h : b' ≠ b) : (w.setRow b arr').heap[b']? = w.heap[b']? := by
 simp only [World.setRow, Array.getElem?_modify]
 rw [if_neg (by omega)]
theorem Fr2.setRow {id : Id} {b n s : Nat} {arr : Array Value} (hT : T id) (hok : ¬ ok b) (hb : ρ id = .blk b n s) : Fr2 T w ok ρ (w.setRow b arr) ok ρ :=
 ⟨by simp [World.setRow], fun b' _ h => setRow_other (fun e => by
  subst e
  rcases h with h | h
  · exact hok h
  · exact h id n s hT hb), fun _ h => h, fun _ _ _ _ _ h => h⟩
theorem snd_store {q y : Opd S.toTyS} {n : Nat} (hT : ∀ id e off, σ.ev q = .c (.ptr id e off) → T id) (hc : chkI S P fid o.op (.store q y n) = true) (g : Gam S fid X σ a w ok ρ) (hk : (IOp.store q y n).vc O σ K) (hn : Owes S fid X a o next K w ok ρ T) : o.wp P a w next Q := by
 simp only [chkI] at hc
 split at hc
 case h_2 => cases hc
 case h_1 t p x he =>
  simp only [Bool.and_eq_true, decide_eq_true_eq] at hc
  obtain ⟨⟨h1, h2⟩, h3⟩ := hc
  have r1 := okOpd_rel h1 g
  have r2 := okOpd_rel h2 g
  simp only [IOp.vc, chk_iff, decide_eq_true_eq] at hk
  split at hk
  case h_2 => exact hk.elim
  rename_i id e off vs hq hvs
  rw [hq] at r1
  have hl2 := r2.cells_rel hvs
  obtain ⟨hlen, hk⟩ := hk
  have hsz : (a.eval x).cells.size = n := by have := hl2.1; simp at this; omega
  have fin : ∀ b o1 arr t', a.eval p = .pointer (some ⟨b, o1, none⟩) → w.heap[b]? = some (.cells arr t' (0, 0)) → o1 + n ≤ arr.size →
   (execOp a.eval o).run P w = .ok .skip (w.setRow b (splice arr.toList o1 (a.eval x).cells.toList).toArray) := by
   intro b o1 arr t' hv hh hb
   have hrun := store_gen (P := P) h3 hsz hl2.oneCells hh hb
   simp [execOp, he, hv, Instr.storeAt, Instr.sureAddr, hrun]
  split at hk
  · rename_i cs hid
    obtain ⟨h5, h6, hK⟩ := hk
    obtain ⟨b, m, s, arr, ty, hρ, hv, hh, hs, hl⟩ := var_cells g.mem hid r1 h5
    have hsz1 : arr.size = cs.length := by simpa using hl.1
    have hok : ¬ ok b := g.mem.excl id _ b m s hid rfl hρ
    have hmono : ∀ b', ok b' → (w.setRow b (splice arr.toList off (a.eval x).cells.toList).toArray).heap[b']? = w.heap[b']? := fun b' hb' => setRow_other (fun e => hok (e ▸ hb'))
    refine wp_skipv (fin b off arr ty hv hh (by omega)) (hn _ _ _ _ _ _ hK (g.write hid rfl hρ hh ?_) True.intro (.setRow (hT _ _ _ hq) hok hρ))
    refine ⟨_, ty, setRow_get hh, ?_, ?_⟩
    · simp only [List.size_toArray]
      rw [splice_length (by simp; omega)]
      simp [hs]
    · simp only
      exact (hl.splice hl2 (by omega)).mono hmono (fun _ x => x) (.refl _ _)
  · rename_i c xs hid
    obtain ⟨h5, h6, hK⟩ := hk
    obtain ⟨b, m, arr, ty, hρ, hv, hh, hs, hl, hcs⟩ := row_cells g.mem hid r1 h5
    obtain ⟨x', hx', hK⟩ := hK _ (List.getElem?_eq_getElem h5)
    have hok : ¬ ok b := g.mem.excl id _ b m _ hid rfl hρ
    have hmono : ∀ b', ok b' → (w.setRow b (splice arr.toList (e * S.sz c + off) (a.eval x).cells.toList).toArray).heap[b']? = w.heap[b']? := fun b' hb' => setRow_other (fun e => hok (e ▸ hb'))
    have hes : (e + 1) * S.sz c ≤ xs.length * S.sz c := Nat.mul_le_mul_right _ h5
    rw [Nat.add_mul, Nat.one_mul] at hes
    refine wp_skipv (fin b _ arr ty hv hh (by omega)) (hn _ _ _ _ _ _ hK (g.write hid rfl hρ hh ?_) True.intro (.setRow (hT _ _ _ hq) hok hρ))
    have hfit : e * S.sz c + off + (a.eval x).cells.toList.length ≤ arr.toList.length := by simp; omega
    refine ⟨rfl, _, ty, setRow_get hh, ?_, by simpa using hl, fun i u j d hu hd => ?_⟩
    · simp only [List.size_toArray]
      rw [splice_length hfit]
      simp [hs]
    · have hj : j < S.sz c := by
       have := (List.getElem?_eq_some_iff.1 hd).1
       rwa [S.row_len] at this
      have hget : (splice arr.toList (e * S.sz c + off) (a.eval x).cells.toList).toArray[i * S.sz c + j]? = if e * S.sz c + off ≤ i * S.sz c + j ∧ i * S.sz c + j < e * S.sz c + off + n then (a.eval x).cells.toList[i * S.sz c + j - (e * S.sz c + off)]? else arr[i * S.sz c + j]? := by
       have := splice_get hfit (i * S.sz c + j)
       rw [show (a.eval x).cells.toList.length = n by simp [hsz]] at this
       simpa using this
      rw [hget]
      by_cases hie : i = e
      · subst hie
        have hu' : u = x' := by
         rw [List.getElem?_set_self h5] at hu
         exact (Option.some.inj hu).symm
        subst hu'
        obtain ⟨hl7, h7⟩ := S.unrow_spec c _ _ hx'
        have hrl : off + vs.length ≤ (S.row c xs[i]).length := by rw [S.row_len]; omega
        by_cases hin : i * S.sz c + off ≤ i * S.sz c + j ∧ i * S.sz c + j < i * S.sz c + off + n
        · rw [if_pos hin]
          have hjj : i * S.sz c + j - (i * S.sz c + off) = j - off := by omega
          have hlt : j - off < (a.eval x).cells.toList.length := by simp; omega
          have hlt' : j - off < vs.length := by omega
          have hsp : (splice (S.row c xs[i]) off vs)[j]? = some vs[j - off] := by
           rw [splice_get hrl, if_pos (by omega), List.getElem?_eq_getElem hlt']
          have hcr := hl2.2 (j - off) _ _ (List.getElem?_eq_getElem hlt) (List.getElem?_eq_getElem hlt')
          have hle := h7 j _ _ hsp hd
          have hdd := S.row_data c u d (List.mem_of_getElem? hd)
          exact ⟨_, by rw [hjj]; exact List.getElem?_eq_getElem hlt, ((hcr.le hle).irel hdd).mono hmono (fun _ x => x)⟩
        · rw [if_neg hin]
          have hj2 : j < (S.row c xs[i]).length := by rw [S.row_len]; exact hj
          obtain ⟨v, hv1, hv2⟩ := hcs i _ j _ (List.getElem?_eq_getElem h5) (List.getElem?_eq_getElem hj2)
          have hsp : (splice (S.row c xs[i]) off vs)[j]? = some (S.row c xs[i])[j] := by
           rw [splice_get hrl, if_neg (by omega), List.getElem?_eq_getElem hj2]
          have hle := h7 j _ _ hsp hd
          have hdd := S.row_data c u d (List.mem_of_getElem? hd)
          have hcr : CRel S fid w ok ρ v (S.row c xs[i])[j] := hv2.crel
          exact ⟨v, hv1, ((hcr.le hle).irel hdd).mono hmono (fun _ x => x)⟩
      · rw [List.getElem?_set_ne (Ne.symm hie)] at hu
        obtain ⟨v, hv1, hv2⟩ := hcs i u j d hu hd
        have hni : ¬ (e * S.sz c + off ≤ i * S.sz c + j ∧ i * S.sz c + j < e * S.sz c + off + n) := by
         rcases Nat.lt_or_gt_of_ne hie with hlt | hgt
         · have := Nat.mul_le_mul_right (S.sz c) hlt
           rw [Nat.succ_mul] at this
           omega
         · have := Nat.mul_le_mul_right (S.sz c) hgt
           rw [Nat.succ_mul] at this
           omega
        rw [if_neg hni]
        exact ⟨v, hv1, hv2.mono hmono (fun _ x => x)⟩
  · rename_i c rows hid
    split at hk
    case h_2 => exact hk.elim
    rename_i i len
    obtain ⟨h5, rfl, hK⟩ := by simpa only [chk_iff, decide_eq_true_eq] using hk
    simp only [List.length_cons, List.length_nil, Nat.zero_add] at hlen
    subst hlen
    obtain ⟨b, m, arr, ty, hρ, hv, hh, hs, hl, hcs⟩ := tab_cells g.mem hid r1 h5
    have hok : ¬ ok b := g.mem.excl id _ b m _ hid rfl hρ
    have hmono : ∀ b', ok b' → (w.setRow b (splice arr.toList e (a.eval x).cells.toList).toArray).heap[b']? = w.heap[b']? := fun b' hb' => setRow_other (fun e => hok (e ▸ hb'))
    refine wp_skipv (fin b e arr ty hv hh (by omega)) (hn _ _ _ _ _ _ hK (g.write hid rfl hρ hh ?_) True.intro (.setRow (hT _ _ _ hq) hok hρ))
    have hfit : e + (a.eval x).cells.toList.length ≤ arr.toList.length := by simp; omega
    have hl1 : (a.eval x).cells.toList.length = 1 := by simpa using hsz
    refine ⟨rfl, _, ty, setRow_get hh, ?_, hl, fun j r hr => ?_⟩
    · simp only [List.size_toArray]
      rw [splice_length hfit]
      simp [hs]
    · have hget := splice_get hfit j
      rw [hl1] at hget
      by_cases hj : j = e
      · subst hj
        rw [if_pos (by omega), Nat.sub_self] at hget
        have h0 : 0 < (a.eval x).cells.toList.length := by omega
        have hcr := hl2.2 0 _ _ (List.getElem?_eq_getElem h0) (List.getElem?_eq_getElem (l := [C.osl i 0 len]) (by simp))
        refine ⟨(a.eval x).cells.toList[0], by simpa [List.getElem?_eq_getElem h0] using hget, ?_⟩
        simp only [tabC, if_true]
        exact CRel.mono hmono (fun _ x => x) (.refl _ _) hcr
      · rw [if_neg (by omega)] at hget
        obtain ⟨u, hu, hur⟩ := hcs j r hr
        refine ⟨u, by simpa [hu] using hget, ?_⟩
        simp only [tabC, if_neg hj]
        exact CRel.mono hmono (fun _ x => x) (.refl _ _) (d := .isl c r) hur
  · exact hk.elim
theorem fold_set (off : Nat) : ∀ (l : List Value) (j : Nat) (arr : Array Value), off + j + l.length ≤ arr.size →
 ((l.zipIdx j).foldl (fun cs (cj : Value × Nat) => cs.setIfInBounds (off + cj.2) cj.1) arr).toList = splice arr.toList (off + j) l
 | [], j, arr, _ => by simp [Clap.splice]
 | v :: l, j, arr, h => by
  simp only [List.length_cons] at h
  rw [List.zipIdx_cons, List.foldl_cons, fold_set off l (j + 1) _ (by simp; omega)]
  have := list_seg_step arr.toList (off + j) v l (by simp; omega)
  simp only [Clap.splice, Array.toList_setIfInBounds, List.length_cons]
  rw [← Nat.add_assoc off j 1]
  exact this
theorem fillC_rel {place : Nat → Option (Nat × Nat)} : ∀ (ps : List (Nat × Operand)) (qs : List ((Nat × Nat) × Opd S.toTyS)) (arr : Array Value) (cs cs' : List (C S.toTyS)), Gam S fid X σ a w ok ρ →
 ps.length = qs.length → (∀ (i : Nat) p q, ps[i]? = some p → qs[i]? = some q → place p.1 = some q.1 ∧ okOpd S.toTyS fid p.2 q.2 = true) →
 LRel S fid w ok ρ arr.toList cs → fillC σ cs qs = some cs' →
 ∃ arr', Instr.fill place arr (ps.map fun p => (p.1, a.eval p.2)) = some arr' ∧ LRel S fid w ok ρ arr'.toList cs'
 | [], [], arr, cs, cs', g, _, _, hr, h => by
  simp [fillC] at h; subst h
  exact ⟨arr, rfl, hr⟩
 | [], _ :: _, _, _, _, _, h, _, _, _ => by simp at h
 | _ :: _, [], _, _, _, _, h, _, _, _ => by simp at h
 | p :: ps, q :: qs, arr, cs, cs', g, hl, hp, hr, h => by
  obtain ⟨i, x⟩ := p
  obtain ⟨⟨off, sz⟩, y⟩ := q
  obtain ⟨h1, h2⟩ := hp 0 _ _ rfl rfl
  simp only [fillC] at h
  split at h
  case h_2 => cases h
  rename_i xs hxs
  split at h
  case isFalse => cases h
  rename_i hcond
  obtain ⟨h3, h4⟩ := hcond
  have hl2 := (okOpd_rel h2 g).cells_rel hxs
  have hsz : (a.eval x).cells.size = sz := by have := hl2.1; simp at this; omega
  have hsz2 : arr.size = cs.length := by simpa using hr.1
  have harr : ∃ arr1 : Array Value, arr1 = (a.eval x).cells.zipIdx.foldl (fun cs (cj : Value × Nat) => cs.setIfInBounds (off + cj.2) cj.1) arr := ⟨_, rfl⟩
  obtain ⟨arr1, harr1⟩ := harr
  have htl : arr1.toList = splice arr.toList off (a.eval x).cells.toList := by
   rw [harr1]
   have := fold_set off (a.eval x).cells.toList 0 arr (by simp; omega)
   rw [Nat.add_zero] at this
   rw [← this, ← Array.foldl_toList, Array.toList_zipIdx]
  obtain ⟨arr', h5, h6⟩ := fillC_rel ps qs arr1 _ cs' g (by simpa using hl) (fun i p q hp' hq' => hp (i + 1) p q (by simpa using hp') (by simpa using hq')) (by rw [htl]; exact hr.splice hl2 (by omega)) h
  refine ⟨arr', ?_, h6⟩
  simp only [List.map_cons, Instr.fill, h1]
  have hcond : ¬ ((a.eval x).cells.size ≠ sz ∨ off + (a.eval x).cells.size > arr.size) := by omega
  simp only [hsz, ne_eq, not_true_eq_false, decide_false, Bool.false_or, decide_eq_true_eq]
  rw [if_neg (by omega)]
  rw [harr1] at h5
  exact h5
theorem okParts_spec {t : TypeId} : ∀ {ps : List (Nat × Operand)} {qs : List ((Nat × Nat) × Opd S.toTyS)}, okParts S.toTyS fid P t ps qs = true →
 ps.length = qs.length ∧ ∀ (i : Nat) p q, ps[i]? = some p → qs[i]? = some q → placeOf P t p.1 = some q.1 ∧ okOpd S.toTyS fid p.2 q.2 = true
 | [], [], _ => ⟨rfl, fun i p q h => by simp at h⟩
 | [], _ :: _, h => by simp [okParts] at h
 | _ :: _, [], h => by simp [okParts] at h
 | (j, x) :: ps, (pl, y) :: qs, h => by
  simp only [okParts, Bool.and_eq_true, decide_eq_true_eq] at h
  obtain ⟨h1, h2⟩ := okParts_spec h.2
  refine ⟨by simp [h1], fun i u v hu hv => ?_⟩
  cases i with
  | zero => simp at hu hv; subst hu; subst hv; exact h.1
  | succ i => simp at hu hv; exact h2 i u v hu hv
theorem mapM_places : ∀ (fs : List Field), (∀ f ∈ fs, (szOf P f.type).isSome = true) → ∃ places, fs.mapM (fun f => (P.info? f.type).map fun i => (f.offset, i.size)) = some places ∧ places.length = fs.length ∧
 ∀ (i : Nat) f s, fs[i]? = some f → szOf P f.type = some s → places[i]? = some (f.offset, s)
 | [], _ => ⟨[], rfl, rfl, fun i f s h => by simp at h⟩
 | f :: fs, h => by
  obtain ⟨places, h1, h2, h3⟩ := mapM_places fs (fun g hg => h g (by simp [hg]))
  obtain ⟨s, hs⟩ := Option.isSome_iff_exists.1 (h f (by simp))
  have hs' : (P.info? f.type).map (fun i => (f.offset, i.size)) = some (f.offset, s) := by
   unfold szOf at hs
   cases hi : P.info? f.type with
   | none => simp [hi] at hs
   | some i => simp [hi] at hs; simp [hs]
  refine ⟨(f.offset, s) :: places, ?_, by simp [h2], fun i g s' hg hs2 => ?_⟩
  · simp [List.mapM_cons, hs', h1]
  · cases i with
    | zero => simp at hg; subst hg; rw [hs] at hs2; cases hs2; rfl
    | succ i => simp at hg; simpa using h3 i g s' hg hs2
theorem py_build {zero : List (C S.toTyS)} {qs : List ((Nat × Nat) × Opd S.toTyS)} (hc : chkI S P fid o.op (.build zero qs) = true) (g : Gam S fid X σ a w ok ρ) (hk : (IOp.build zero qs).vc O σ K) : PY S fid P a w ok ρ o σ K := by
 simp only [chkI] at hc
 split at hc
 case h_2 => cases hc
 case h_1 t ps he =>
  simp only [Bool.and_eq_true] at hc
  obtain ⟨⟨h1, h2⟩, h3⟩ := hc
  obtain ⟨z, hz, hzc, hzi⟩ := okZero_spec (w := w) h1
  obtain ⟨hzl, _⟩ := okConsts_rel (fid := fid) (w := w) (ok := ok) (ρ := ρ) hzc
  obtain ⟨h4, h5⟩ := okParts_spec h3
  simp only [IOp.vc, chk_iff, decide_eq_true_eq] at hk
  split at hk
  case h_2 => exact hk.elim
  rename_i cs hcs
  have hpl : ∃ place, (∀ vals : List (Nat × Value), P.built t vals = Instr.fill place z.cells vals) ∧ ∀ i pl, placeOf P t i = some pl → place i = some pl := by
   cases hi : P.info? t with
   | none => simp [hi] at hzi
   | some it =>
    simp [hi] at hzi
    unfold fieldsOk at h2
    cases hu : P.underlying t with
    | none => simp [hu] at h2
    | some d =>
     cases d <;> simp [hu] at h2
     case array n e =>
      cases hie : P.info? e with
      | none => simp [szOf, hie] at h2
      | some ie =>
       exact ⟨fun i => some (i * ie.size, ie.size), fun vals => by simp [Program.built, hi, hu, hzi, hie], fun i pl hp => by simpa [placeOf, hu, szOf, hie] using hp⟩
     case struct fs =>
      obtain ⟨places, h6, h7, h8⟩ := mapM_places (P := P) fs.toList (fun f hf => by
       obtain ⟨k, hk, rfl⟩ := List.mem_iff_getElem.1 hf
       simpa using h2 k (by simpa using hk))
      refine ⟨fun i => places.toArray[i]?, fun vals => by simp [Program.built, hi, hu, hzi, h6], fun i pl hp => ?_⟩
      simp only [placeOf, hu] at hp
      split at hp
      · rename_i f hf
        simp only [Option.map_eq_some_iff] at hp
        obtain ⟨s, hs, rfl⟩ := hp
        simpa using h8 i f s (by simpa using hf) hs
      · cases hp
  obtain ⟨place, hb, hp⟩ := hpl
  obtain ⟨arr', h9, h10⟩ := fillC_rel (place := place) ps.toList qs z.cells zero cs g h4 (fun i p q hp' hq' => ⟨hp _ _ (h5 i p q hp' hq').1, (h5 i p q hp' hq').2⟩) hzl hcs
  have hbuilt : P.built t (ps.map fun p => (p.1, a.eval p.2)).toList = some arr' := by rw [hb]; simpa using h9
  refine PY.intro (v := .agg arr') ?_ hk (⟨arr', rfl, h10⟩)
  intro w
  have := run_build (P := P) w t (ps.map fun p => (p.1, a.eval p.2)) arr' hbuilt
  simp only [execOp, he, Sem.run_bind, this, Result.andThen_ok, Sem.run_pure]
end Go.Clap
