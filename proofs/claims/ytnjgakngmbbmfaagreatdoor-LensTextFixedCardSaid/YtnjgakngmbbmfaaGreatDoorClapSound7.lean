/- The checks of the small code against the loaded functions. -/
import Derived.Test.YtnjgakngmbbmfaaGreatDoorClapSound6
import Derived.Laws.BytesArg
set_option linter.unusedVariables false
set_option linter.unusedSimpArgs false
namespace Go.Clap
variable {S : Sig} {fid : Nat → FuncId} {P : Program} {X : Ctx S} {σ : St S.toTyS} {a : Act} {w : World} {ok : Nat → Prop} {ρ : Id → Where}
variable {o : Oper} {next : Act → World → Prop} {Q : Exit → Act → World → Prop} {K : D S.toTyS → St S.toTyS → Prop} {T : Id → Prop} {O : Oracle S.toTyS}
theorem Gam.redo (g : Gam S fid X σ a w ok ρ) {k : Nat} {d : D S.toTyS} (h : DRel S fid w ok ρ (a.tmps.getD k undef) d) : Gam S fid X (σ.set k d) a w ok ρ where
 defers := g.defers
 size := g.size
 env j := by
  rw [St.get_set]
  by_cases e : j = k
  · subst e; simpa using h
  · simpa [e] using g.env j
 mem := g.mem
 okf := g.okf
 ownf := g.ownf
 fr := g.fr
 okm := g.okm
 xst := g.xst
theorem py_idxC {y j : Opd S.toTyS} {sz ln : Nat} (hc : chkI S P fid o.op (.idxC y j sz ln) = true) (g : Gam S fid X σ a w ok ρ) (hk : (IOp.idxC y j sz ln).vc O σ K) : PY S fid P a w ok ρ o σ K := by
 refine py_idxArr (O := O) (sz := sz) (ln := ln) (y := y) (j := j) (by simpa only [chkI] using hc) g ?_
 simp only [IOp.vc, chk_iff, decide_eq_true_eq] at hk ⊢
 split at hk
 · obtain ⟨h1, h2, h3⟩ := hk
   exact ⟨h1, h2, h3 _ (Int.toNat_of_nonneg h2.1)⟩
 · obtain ⟨h2, h3⟩ := hk
   exact ⟨h2, h3 _ (Int.toNat_of_nonneg h2.1)⟩
 · exact hk.elim
theorem rows_get (c : S.Ty) : ∀ (xs : List (S.U c)) (i : Nat) (x : S.U c) (j : Nat) (d : C S.toTyS), xs[i]? = some x → (S.row c x)[j]? = some d → (xs.flatMap (S.row c))[i * S.sz c + j]? = some d
 | [], i, x, j, d, hx, hd => by simp at hx
 | y :: ys, 0, x, j, d, hx, hd => by
  simp at hx
  subst hx
  have := (List.getElem?_eq_some_iff.1 hd).1
  rw [List.flatMap_cons, Nat.zero_mul, Nat.zero_add, List.getElem?_append_left this]
  exact hd
 | y :: ys, i + 1, x, j, d, hx, hd => by
  have ih := rows_get c ys i x j d (by simpa using hx) hd
  have hl := S.row_len c y
  have hm : (i + 1) * S.sz c = S.sz c + i * S.sz c := by rw [Nat.succ_mul, Nat.add_comm]
  rw [List.flatMap_cons, List.getElem?_append_right (by omega), hl]
  rw [← ih]
  congr 1
  omega
theorem rows_len (c : S.Ty) : ∀ xs : List (S.U c), (xs.flatMap (S.row c)).length = xs.length * S.sz c
 | [] => by simp
 | y :: ys => by rw [List.flatMap_cons, List.length_append, S.row_len, rows_len c ys, List.length_cons, Nat.succ_mul, Nat.add_comm]
theorem rows_inv (c : S.Ty) : ∀ (xs : List (S.U c)) (k : Nat) (d : C S.toTyS), (xs.flatMap (S.row c))[k]? = some d → ∃ (i : Nat) (x : S.U c) (j : Nat), xs[i]? = some x ∧ (S.row c x)[j]? = some d ∧ k = i * S.sz c + j
 | [], k, d, h => by simp at h
 | y :: ys, k, d, h => by
  have hl := S.row_len c y
  rw [List.flatMap_cons] at h
  rcases Nat.lt_or_ge k (S.sz c) with hk | hk
  · rw [List.getElem?_append_left (by omega)] at h
    exact ⟨0, y, k, rfl, h, by simp⟩
  · rw [List.getElem?_append_right (by omega), hl] at h
    obtain ⟨i, x, j, h1, h2, h3⟩ := rows_inv c ys _ d h
    refine ⟨i + 1, x, j, by simpa using h1, h2, ?_⟩
    have hm : (i + 1) * S.sz c = S.sz c + i * S.sz c := by rw [Nat.succ_mul, Nat.add_comm]
    omega
theorem py_idxR {y j : Opd S.toTyS} {sz ln : Nat} (hc : chkI S P fid o.op (.idxR y j sz ln) = true) (g : Gam S fid X σ a w ok ρ) (hk : (IOp.idxR y j sz ln).vc O σ K) : PY S fid P a w ok ρ o σ K := by
 simp only [chkI] at hc
 split at hc
 case h_2 => cases hc
 case h_1 t x i he =>
  simp only [Bool.and_eq_true] at hc
  obtain ⟨⟨h1, h2⟩, h3⟩ := hc
  have r1 := okOpd_rel h1 g
  have r2 := okOpd_rel h2 g
  split at h3
  case h_2 => cases h3
  case h_1 n e hu =>
  simp only [Bool.and_eq_true, decide_eq_true_eq] at h3
  obtain ⟨rfl, h3⟩ := h3
  have key : ∀ b off k i', a.eval x = .pointer (some ⟨b, off, none⟩) → a.eval i = .int k i' → 0 ≤ i' → i' < n →
   ∀ w, (execOp a.eval o).run P w = .ok (.value (.pointer (some ⟨b, off + i'.toNat * sz, none⟩))) w := by
   intro b off k i' hv hi h0 h1 w
   simp [execOp, he, hv, hi, Instr.indexAt, asIntOf, run_underlying hu, Instr.sureAddr, h0, h1, run_sizeOf_of (w := w) h3, add_at]
  simp only [IOp.vc, chk_iff, Bool.and_eq_true, decide_eq_true_eq] at hk
  split at hk
  · rename_i id e1 o1 k i' hq hj
    rw [hq] at r1
    rw [hj] at r2
    split at hk
    case h_2 => exact hk.elim
    rename_i ro c xs hid
    obtain ⟨⟨⟨rfl, rfl⟩, rfl⟩, ⟨h4, h5⟩, hK⟩ := hk
    obtain ⟨b, m, s, hρ, hv⟩ := ptr_addr g.mem (by rw [hid]; rfl) r1
    have hm := g.mem.live id _ hid
    rw [hρ] at hm
    have hs : s = S.sz c := hm.1
    subst hs
    refine PY.intro (key _ _ _ _ hv r2 h4 h5) hK ?_
    simp [DRel, DRel1, CRel, hρ]
  · rename_i c x' o1 k i' hq hj
    rw [hq] at r1
    rw [hj] at r2
    obtain ⟨rfl, e2, ys, hrow, rfl, hlen, ⟨h4, h5⟩, hK⟩ := hk
    obtain ⟨b, base, hb, hv, hcs⟩ := r1
    have hlt : i'.toNat < ys.length := by omega
    refine PY.intro (key _ _ _ _ hv r2 h4 h5) (hK _ (List.getElem?_eq_getElem hlt)) (⟨b, base + i'.toNat * S.sz e2, hb, by simp, fun jj d hd => ?_⟩)
    obtain ⟨u, h6, h7⟩ := hcs (i'.toNat * S.sz e2 + jj) d (by rw [hrow]; exact rows_get e2 ys _ _ _ _ (List.getElem?_eq_getElem hlt) hd)
    exact ⟨u, by rw [Nat.add_assoc]; exact h6, h7⟩
  · exact hk.elim
theorem snd_loadR {q : Opd S.toTyS} {n : Nat} (hc : chkI S P fid o.op (.loadR q n) = true) (g : Gam S fid X σ a w ok ρ) (hk : (IOp.loadR q n).vc O σ K) (hn : Owes S fid X a o next K w ok ρ T) : o.wp P a w next Q := by
 simp only [chkI] at hc
 split at hc
 case h_2 => cases hc
 case h_1 t p he =>
  simp only [Bool.and_eq_true, decide_eq_true_eq] at hc
  obtain ⟨⟨h1, h2⟩, h3⟩ := hc
  have r1 := okOpd_rel h1 g
  simp only [IOp.vc, chk_iff, Bool.and_eq_true, decide_eq_true_eq] at hk
  split at hk
  case h_2 => exact hk.elim
  rename_i id e off hq
  rw [hq] at r1
  split at hk
  case h_2 => exact hk.elim
  rename_i ro c xs hid
  obtain ⟨⟨rfl, rfl⟩, ⟨h5, h6⟩, hK⟩ := hk
  obtain ⟨b, m, arr, ty, hρ, hv, hh, hs, hl, hcs⟩ := row_cells g.mem hid r1 h5
  have hcell : ∀ j d, (xs.flatMap (S.row c))[j]? = some d → ∃ u, w.cell? ⟨b, 0 + j, none⟩ = some u ∧ IRel S w ok u d := fun j d hd => by
   obtain ⟨i, x, jj, h7, h8, rfl⟩ := rows_inv c xs j d hd
   obtain ⟨u, hu, hi⟩ := hcs i x jj d h7 h8
   exact ⟨u, by rw [cell_at hh, Nat.zero_add]; exact hu, hi⟩
  obtain ⟨v, hr, hd⟩ := load_gen (P := P) (fid := fid) (ρ := ρ) (S := S) (cs := xs.flatMap (S.row c)) (w := w) (b := b) (off := 0) (ok := ok) h2 h3 rfl (by rw [rows_len]; exact h6) (fun j d hd => by
   obtain ⟨u, hu, hi⟩ := hcell j d hd
   exact ⟨u, hu, hi.crel⟩)
  simp only [Nat.zero_mul, Nat.zero_add] at hv
  have hd' : DRel S fid w ok ρ v (.arrv c xs) := by
   obtain ⟨arr, rfl, hl1, hl2⟩ := hd
   refine ⟨arr, rfl, hl1, fun i u d hu hdd => ?_⟩
   have hdat : d.data = true := by
    obtain ⟨i', x, jj, _, h8, _⟩ := rows_inv c xs i d hdd
    exact S.row_data c x d (List.mem_of_getElem? h8)
   exact (hl2 i u d hu hdd).irel hdat
  exact wp_value (by simp [execOp, he, hv, Instr.loadAt, Instr.sureAddr, hr w rfl]) (hn _ _ _ _ _ _ hK g hd' (.refl _ _ _ _))
theorem snd_bslR {c : S.Ty} {y : Opd S.toTyS} (hc : chkI S P fid o.op (.bslR c y) = true) (g : Gam S fid X σ a w ok ρ) (hk : (IOp.bslR c y).vc O σ K) (hn : Owes S fid X a o next K w ok ρ T) : o.wp P a w next Q := by
 simp only [IOp.vc] at hk
 split at hk
 case h_2 => exact hk.elim
 rename_i c' xs hq
 obtain ⟨u, hu, hK⟩ := hk
 cases y with
 | c x => cases hq
 | g cs => cases hq
 | t k =>
  have hq : σ.get k = .arrv c' xs := hq
  have hr := g.env k
  rw [hq] at hr
  have hr0 := hr
  obtain ⟨arr, hv, hl1, hl2⟩ := hr
  have g2 : Gam S fid X (σ.set k (.agg (xs.flatMap (S.row c')))) a w ok ρ := g.redo ⟨arr, hv, hl1, fun i v d h1 h2 => (hl2 i v d h1 h2).crel⟩
  have hev : (σ.set k (.agg (xs.flatMap (S.row c')))).ev (.t k) = .agg (xs.flatMap (S.row c')) := by
   show (σ.set k _).get k = _
   rw [St.get_set, if_pos rfl]
  refine snd_bsl (O := O) (T := T) (c := c) (ys := [.t k]) (K := fun d σ' => d = .c (.isl c [u]) ∧ σ' = σ.set k (.agg (xs.flatMap (S.row c')))) (by simpa only [chkI, List.length_singleton] using hc) g2 ?_ ?_
  · simp only [IOp.vc, rowsOf, hev, D.cells, hu]
    exact ⟨trivial, trivial⟩
  · rintro v w' d σ' ok' ρ' ⟨rfl, rfl⟩ g' hd hfr
    have hs : ∀ b, ok b → w'.heap[b]? = w.heap[b]? := fun b hb => hfr.2.1 b (g.mem.okl b hb) (.inl hb)
    have g3 := g'.redo (k := k) (d := .arrv c' xs) (DRel.mono (ρ := ρ) hs hfr.2.2.1 (fun id hid => by simp [D.ids, D.ids1] at hid) hr0)
    exact hn v w' _ σ ok' ρ' hK (g3.congr (fun j => by
     rw [St.get_set, St.get_set]
     by_cases e : j = k
     · subst e; simp [hq]
     · simp [e]) (fun _ => rfl)) hd hfr
theorem snd_allocR {k : Nat} {c : S.Ty} {n : Nat} {z : S.U c} (hc : chkI S P fid o.op (.allocR k c n z) = true) (g : Gam S fid X σ a w ok ρ) (hk : (IOp.allocR k c n z).vc O σ K) (hn : Owes S fid X a o next K w ok ρ T) : o.wp P a w next Q := by
 simp only [chkI] at hc
 split at hc
 case h_2 => cases hc
 case h_1 t he =>
  simp only [Bool.and_eq_true, decide_eq_true_eq] at hc
  obtain ⟨h0, hpos⟩ := hc
  obtain ⟨zz, hz, h1, _⟩ := okZero_spec (w := w) h0
  obtain ⟨hl, hids⟩ := okConsts_rel (fid := fid) (w := w) (ok := ok) (ρ := ρ) h1
  obtain ⟨hf, hK⟩ := chk_iff.1 hk
  have hmono : ∀ b, ok b → (w.alloc (.cells zz.cells t)).heap[b]? = w.heap[b]? := fun b hb => heap_alloc_old w _ b (g.mem.okl b hb)
  have hsz : zz.cells.size = n * S.sz c := by
   have := hl.1
   rw [rows_len, List.length_replicate, Array.length_toList] at this
   exact this
  have g' : Gam S fid X (σ.put (.s k) (some (.row false c (List.replicate n z)))) a (w.alloc (.cells zz.cells t)) ok (updW ρ (.s k) (.blk w.heap.size zz.cells.size (S.sz c))) := by
   refine g.new (by intro j h; cases h) hf rfl ⟨rfl, zz.cells, t, heap_alloc_new w _, rfl, by rw [List.length_replicate, hsz]; exact Nat.le_refl _, fun i x j d hx hd => ?_⟩
   have hget := rows_get c _ i x j d hx hd
   have hlt : i * S.sz c + j < zz.cells.toList.length := by rw [hl.1]; exact (List.getElem?_eq_some_iff.1 hget).1
   have hr := hl.2 _ _ _ (List.getElem?_eq_getElem hlt) hget
   have hdat := S.row_data c x d (List.mem_of_getElem? hd)
   refine ⟨zz.cells.toList[i * S.sz c + j], ?_, (hr.irel hdat).mono hmono (fun _ x => x)⟩
   rw [Array.getElem?_eq_getElem (by simpa using hlt)]
   simp
  have hd : DRel S fid (w.alloc (.cells zz.cells t)) ok (updW ρ (.s k) (.blk w.heap.size zz.cells.size (S.sz c))) (.pointer (some ⟨w.heap.size, 0, none⟩)) (.c (.ptr (.s k) 0 0)) := by
   simp [DRel, DRel1, CRel, updW_same]
  exact wp_value (by simp [execOp, he, Instr.alloc, hz, run_newVar]) (hn _ _ _ _ _ _ hK g' hd (.alloc _ _ _ _ (g.mem.gone _ (St.fresh_none hf))))
theorem snd_b2s {y : Opd S.toTyS} (hc : chkI S P fid o.op (.b2s y) = true) (g : Gam S fid X σ a w ok ρ) (hk : (IOp.b2s y).vc O σ K) (hn : Owes S fid X a o next K w ok ρ T) : o.wp P a w next Q := by
 simp only [chkI] at hc
 split at hc
 case h_2 => cases hc
 case h_1 s d x he =>
  simp only [Bool.and_eq_true] at hc
  obtain ⟨⟨h1, h2⟩, h3⟩ := hc
  have r1 := okOpd_rel h1 g
  split at h2
  case h_2 => cases h2
  rename_i hd
  split at h3
  case h_2 => cases h3
  rename_i e hel
  split at h3
  case h_2 => cases h3
  rename_i hu8
  have hs := elemOfB_spec hel
  simp only [IOp.vc] at hk
  split at hk
  · rename_i c xs hq
    rw [hq] at r1
    obtain ⟨ns, hns, hK⟩ := hk
    obtain ⟨base, cap, hv, hcap, hmax, hisl⟩ := IRel.isl_inv r1
    have hlen : ns.length = xs.length := by simpa using (congrArg List.length hns).symm
    have hrun : (convert s d (.slice base xs.length cap)).run P w = .ok (.string (strOfNums ns)) w := by
     by_cases hne : xs = []
     · subst hne
       have : ns = [] := by cases ns <;> simp_all
       subst this
       cases base with
       | none => exact run_convert_bytes_nil w s e hs hu8 _ _ d hd
       | some b =>
        obtain ⟨blk, off, spot⟩ := b
        rw [run_convert_bytes_string w s d e _ _ _ hs hu8 hd]
        have hl0 := run_loadCells_list (P := P) w ⟨blk, off, spot⟩ [] (fun j v hj => by simp at hj)
        have := run_bytesToString (P := P) w ⟨blk, off, spot⟩ 0 cap [] (by simpa using hl0)
        exact this
     · obtain ⟨blk, off, rfl, hok, hcs⟩ := hisl hne
       refine run_convert_bytes_arg w s e hs hu8 blk off xs.length cap ns hlen (fun i hi => ?_) d hd
       have hi' : i < ns.length := by omega
       have hm : (xs.map (S.row c))[i]? = some [C.int .u8 ns[i]] := by rw [hns, List.getElem?_map, List.getElem?_eq_getElem hi']; rfl
       rw [List.getElem?_map, Option.map_eq_some_iff] at hm
       obtain ⟨u, hu, hru⟩ := hm
       have hsz : S.sz c = 1 := by rw [← S.row_len c u, hru]; rfl
       obtain ⟨v, h4, h5⟩ := hcs i u 0 (C.int .u8 ns[i]) hu (by rw [hru]; rfl)
       rw [h5.int_inv] at h4
       rw [hsz, Nat.mul_one, Nat.add_zero] at h4
       rw [h4]
       simp [List.getD, List.getElem?_eq_getElem hi']
    exact wp_value (by simp only [execOp, he, hv, Sem.run_bind, hrun, Result.andThen_ok, Sem.run_pure]) (hn _ _ _ _ _ _ hK g (show DRel S fid w ok ρ (.string (strOfNums ns)) (.c (.str (strOfNums ns))) from rfl) (.refl _ _ _ _))
  · rename_i hq
    rw [hq] at r1
    have v1 : a.eval x = .slice none 0 0 := r1
    have hrun := run_convert_bytes_nil (P := P) w s e hs hu8 0 0 d hd
    exact wp_value (by simp only [execOp, he, v1, Sem.run_bind, hrun, Result.andThen_ok, Sem.run_pure]) (hn _ _ _ _ _ _ hk g (show DRel S fid w ok ρ (.string ByteArray.empty) (.c (.str ⟨#[]⟩)) from rfl) (.refl _ _ _ _))
  · rename_i id off ln hq
    rw [hq] at r1
    split at hk
    case h_2 => exact hk.elim
    rename_i ro c xs hid
    obtain ⟨h0, hlen0, ns, hns, hK⟩ := chk_iff.1 hk
    replace h0 : off = 0 := of_decide_eq_true h0
    subst h0 hlen0
    have hlen : ns.length = xs.length := by simpa using (congrArg List.length hns).symm
    have hrun0 : ∀ base cap, xs = [] → (convert s d (.slice base xs.length cap)).run P w = .ok (.string (strOfNums ns)) w := fun base cap he0 => by
     subst he0
     have : ns = [] := by cases ns <;> simp_all
     subst this
     cases base with
     | none => exact run_convert_bytes_nil w s e hs hu8 _ _ d hd
     | some b =>
      obtain ⟨blk, off, spot⟩ := b
      rw [run_convert_bytes_string w s d e _ _ _ hs hu8 hd]
      have hl0 := run_loadCells_list (P := P) w ⟨blk, off, spot⟩ [] (fun j v hj => by simp at hj)
      have := run_bytesToString (P := P) w ⟨blk, off, spot⟩ 0 cap [] (by simpa using hl0)
      exact this
    have fin : ∀ base cap, a.eval x = .slice base xs.length cap → (convert s d (.slice base xs.length cap)).run P w = .ok (.string (strOfNums ns)) w → o.wp P a w next Q := fun base cap hv hrun =>
     wp_value (by simp only [execOp, he, hv, Sem.run_bind, hrun, Result.andThen_ok, Sem.run_pure]) (hn _ _ _ _ _ _ hK g (show DRel S fid w ok ρ (.string (strOfNums ns)) (.c (.str (strOfNums ns))) from rfl) (.refl _ _ _ _))
    have hlive := g.mem.live id _ hid
    have r2 : CRel S fid w ok ρ (a.eval x) (.osl id 0 xs.length) := r1
    cases hρ : ρ id with
    | dead => rw [hρ] at hlive; exact hlive.elim
    | empty =>
     rw [hρ] at hlive
     have hx0 : xs = [] := hlive
     simp only [CRel, hρ] at r2
     obtain ⟨_, _, hv⟩ := r2
     exact fin none 0 (by rw [hv, hx0]; rfl) (hrun0 _ _ hx0)
    | blk b n0 sz =>
     rw [hρ] at hlive
     simp only [CRel, hρ] at r2
     obtain ⟨base, cap, hv, hc1, hc2, hc3⟩ := r2
     by_cases hx0 : xs = []
     · exact fin base cap hv (hrun0 _ _ hx0)
     · have hpos := List.length_pos_iff.2 hx0
       obtain ⟨rfl, hc4⟩ := hc3 (by omega)
       obtain ⟨hz, arr, t, hh, hn0, hfit, hcells⟩ := hlive
       refine fin _ cap hv ?_
       rw [Nat.zero_mul]
       refine run_convert_bytes_arg w s e hs hu8 b 0 xs.length cap ns hlen (fun i hi => ?_) d hd
       have hi' : i < ns.length := by omega
       have hm : (xs.map (S.row c))[i]? = some [C.int .u8 ns[i]] := by rw [hns, List.getElem?_map, List.getElem?_eq_getElem hi']; rfl
       rw [List.getElem?_map, Option.map_eq_some_iff] at hm
       obtain ⟨u, hu, hru⟩ := hm
       have hsz : S.sz c = 1 := by rw [← S.row_len c u, hru]; rfl
       obtain ⟨v, h4, h5⟩ := hcells i u 0 (C.int .u8 ns[i]) hu (by rw [hru]; rfl)
       rw [h5.int_inv, hz, hsz, Nat.mul_one, Nat.add_zero] at h4
       rw [Nat.zero_add]
       simp [World.cell?, hh, h4, List.getD, List.getElem?_eq_getElem hi']
  · exact hk.elim
theorem Gam.give (h : Gam S fid X σ a w ok ρ) {b : Nat} {w' : World} (hb : ¬ ok b) (hown : X.w0.heap.size ≤ b ∨ X.own b) (hne : ∀ id n s, ρ id ≠ .blk b n s)
 (h1 : w'.os = w.os) (h2 : w'.tape = w.tape) (h3 : w'.output = w.output) (hsz : w'.heap.size = w.heap.size) (hlt : b < w.heap.size) (hoth : ∀ b', b' ≠ b → w'.heap[b']? = w.heap[b']?) :
 Gam S fid X σ a w' (fun c => ok c ∨ c = b) ρ := by
 have hs : ∀ b', ok b' → w'.heap[b']? = w.heap[b']? := fun b' hb' => hoth b' (fun e => hb (e ▸ hb'))
 have ho : ∀ c, ok c → (ok c ∨ c = b) := fun c hc => .inl hc
 refine ⟨h.defers, h.size, fun k => (h.env k).mono hs ho (.refl _ _), ⟨fun j e hj => (h.mem.live j e hj).mono hs ho (.refl _ _) (fun b1 n1 s1 hb1 => hoth b1 (fun e => hne j n1 s1 (e ▸ hb1))), h.mem.gone, h.mem.inj, fun j e b1 n s hj hr hb1 hok => ?_, fun c hc => ?_⟩,
  fun c hc => ?_, h.ownf, ⟨h1.trans h.fr.os, h2.trans h.fr.tape, h3.trans h.fr.output, by rw [hsz]; exact h.fr.size, fun b' hb' hno => ?_⟩, fun c hc => .inl (h.okm c hc), h.xst⟩
 · rcases hok with hok | rfl
   · exact h.mem.excl j e b1 n s hj hr hb1 hok
   · exact hne j n s hb1
 · rcases hc with hc | rfl
   · rw [hsz]; exact h.mem.okl c hc
   · rw [hsz]; exact hlt
 · rcases hc with hc | rfl
   · exact h.okf c hc
   · rcases hown with hown | hown
     · exact .inr (.inl hown)
     · exact .inr (.inr hown)
 · rw [hoth b' (fun e => ?_)]
   · exact h.fr.block b' hb' hno
   · subst e
     rcases hown with hown | hown
     · omega
     · exact hno hown
theorem snd_mark {y : Opd S.toTyS} (hT : ∀ id off ln, σ.ev y = .c (.osl id off ln) → T id) (hc : chkI S P fid o.op (.mark y) = true) (g : Gam S fid X σ a w ok ρ) (hk : (IOp.mark y).vc O σ K) (hn : Owes S fid X a o next K w ok ρ T) : o.wp P a w next Q := by
 simp only [chkI] at hc
 split at hc
 case h_2 => cases hc
 case h_1 s d x he =>
  simp only [Bool.and_eq_true] at hc
  obtain ⟨⟨h1, h2⟩, h3⟩ := hc
  have r1 := okOpd_rel h1 g
  have h2 : s = d := by simpa using h2
  subst h2
  split at h3
  case h_2 => cases h3
  rename_i e hel
  split at h3
  case h_2 => cases h3
  rename_i hu8
  have hs := elemOfB_spec hel
  simp only [IOp.vc] at hk
  split at hk
  case h_2 => exact hk.elim
  rename_i id off len hq
  split at hk
  case h_2 => exact hk.elim
  rename_i c xs hid
  obtain ⟨h0, hlen, hpos, hK⟩ := chk_iff.1 hk
  replace h0 : off = 0 := of_decide_eq_true h0
  subst h0
  subst hlen
  rw [hq] at r1
  have hm := g.mem.live id _ hid
  have r1' : CRel S fid w ok ρ (a.eval x) (.osl id 0 xs.length) := r1
  simp only [CRel] at r1'
  cases hw : ρ id with
  | dead => rw [hw] at hm; exact hm.elim
  | empty => rw [hw] at hm; simp only [EntRel] at hm; subst hm; simp at hpos
  | blk b n sz =>
   rw [hw] at hm r1'
   obtain ⟨rfl, arr, t, hh, hsz, hle, hcs⟩ := hm
   obtain ⟨base, cap, hv, h6, h7, h8⟩ := r1'
   obtain ⟨rfl, h9⟩ := h8 (by omega)
   simp only [Nat.zero_mul] at hv
   have hnok : ¬ ok b := g.mem.excl id _ b n _ hid rfl hw
   have hbl : b < w.heap.size := (Array.getElem?_eq_some_iff.1 hh).1
   let w' : World := w.freeze ⟨b, arr.size, none⟩ 1
   have hw'h : w'.heap = w.heap.modify b fun
    | .cells c elem (lo, hi) => .cells c elem (if lo == hi then (arr.size, arr.size + 1) else (min lo arr.size, max hi (arr.size + 1)))
    | o => o := by
    show (w.freeze ⟨b, arr.size, none⟩ 1).heap = _
    unfold World.freeze
    rw [if_neg (by decide)]
    rfl
   have hoth : ∀ b', b' ≠ b → w'.heap[b']? = w.heap[b']? := fun b' hne => by
    rw [hw'h, Array.getElem?_modify, if_neg (Ne.symm hne)]
   have hself : w'.heap[b]? = some (.cells arr t (arr.size, arr.size + 1)) := by
    rw [hw'h, Array.getElem?_modify, if_pos rfl, hh]
    rfl
   have hsize : w'.heap.size = w.heap.size := by rw [hw'h, Array.size_modify]
   have hos : w'.os = w.os ∧ w'.tape = w.tape ∧ w'.output = w.output := by
    show (w.freeze ⟨b, arr.size, none⟩ 1).os = _ ∧ (w.freeze ⟨b, arr.size, none⟩ 1).tape = _ ∧ (w.freeze ⟨b, arr.size, none⟩ 1).output = _
    unfold World.freeze
    rw [if_neg (by decide)]
    exact ⟨rfl, rfl, rfl⟩
   have hrun : (convert s s (.slice (some ⟨b, 0, none⟩) xs.length cap)).run P w = .ok (.slice (some ⟨b, 0, none⟩) xs.length cap) w' := by
    have hsh : w.shape? b = some (t, arr.size) := by simp [World.shape?, hh]
    simp [convert, run_underlying hs, run_underlying hu8, markStringish, hsh]
    rfl
   have g1 := g.drop id
   have hne : ∀ j m s1, updW ρ id .dead j ≠ .blk b m s1 := fun j m s1 hj => by
    by_cases e1 : j = id
    · subst e1; rw [updW_same] at hj; cases hj
    · rw [updW_ne e1] at hj
      exact e1 (g.mem.inj j id b m s1 n _ hj hw)
   have g2 := g1.give hnok (g.ownf id b n _ hw) hne hos.1 hos.2.1 hos.2.2 hsize hbl hoth
   have hres : DRel S fid w' (fun c => ok c ∨ c = b) (updW ρ id .dead) (.slice (some ⟨b, 0, none⟩) xs.length cap) (.c (.isl c xs)) := by
    refine IRel.of_isl ⟨h6, h7, fun _ => ⟨b, 0, rfl, .inr rfl, fun i x j d hx hd => ?_⟩⟩
    obtain ⟨u, hu, hi⟩ := hcs i x j d hx hd
    refine ⟨u, ?_, hi.mono (fun b' hb' => hoth b' (fun e => hnok (e ▸ hb'))) (fun c hc => .inl hc)⟩
    rw [cell_at hself, Nat.zero_add]
    exact hu
   refine wp_value (by simp only [execOp, he, hv, Sem.run_bind, hrun, Result.andThen_ok, Sem.run_pure]) (hn _ _ _ _ _ _ hK g2 hres ⟨by rw [hsize]; exact Nat.le_refl _, fun b' hb' hor => hoth b' (fun e => ?_), fun c hc => .inl hc, fun j b' n' s' hTj hj => ?_⟩)
   · subst e
     rcases hor with hor | hor
     · exact hnok hor
     · exact hor id n _ (hT id 0 _ hq) hw
   · rw [updW_ne]
     · exact hj
     · rintro rfl; exact hTj (hT _ 0 _ hq)
end Go.Clap
