/- The checks of the small code against the loaded functions. -/
import Derived.Test.YtnjgakngmbbmfaaGreatDoorClapSound4
import Derived.Laws.MakeOwn
set_option linter.unusedVariables false
set_option linter.unusedSimpArgs false
namespace Go.Clap
variable {S : Sig} {fid : Nat → FuncId} {P : Program} {X : Ctx S} {σ : St S.toTyS} {a : Act} {w : World} {ok : Nat → Prop} {ρ : Id → Where}
variable {o : Oper} {next : Act → World → Prop} {Q : Exit → Act → World → Prop} {K : D S.toTyS → St S.toTyS → Prop} {O : Oracle S.toTyS} {T : Id → Prop}
theorem okElem_spec {t : TypeId} {c : S.Ty} {mx : Nat} (h : okElem S P t c mx = true) :
 ∃ e i z, P.underlying t = some (.slice e) ∧ P.info? e = some i ∧ i.zero = some z ∧ i.size = S.sz c ∧ 4 * mx * i.bytes ≤ 2 ^ 48 ∧ 4 * mx ≤ 2 ^ 62 ∧ z.cells.size = S.sz c ∧ ∀ u ∈ z.cells.toList, u.oneCell' = true := by
 unfold okElem at h
 split at h
 case h_2 => cases h
 rename_i e he
 split at h
 case h_2 => cases h
 rename_i i hi
 simp only [Bool.and_eq_true, decide_eq_true_eq] at h
 obtain ⟨⟨⟨h1, h2⟩, h3⟩, h4⟩ := h
 split at h4
 case h_2 => cases h4
 rename_i z hz
 simp only [Bool.and_eq_true, decide_eq_true_eq] at h4
 refine ⟨e, i, z, elemOfB_spec he, hi, hz, h1, h2, h3, h4.1, fun u hu => ?_⟩
 have := h4.2
 rw [Array.all_eq_true_iff_forall_mem] at this
 exact this u (by simpa using hu)
theorem new_row (g : Gam S fid X σ a w ok ρ) {id : Id} (hx : ∀ j, id ≠ .x j) (hf : σ.fresh id = true) {arr : Array Value} {c : S.Ty} {xs : List (S.U c)} (t : TypeId) (cap : Nat)
 (hcap : xs.length ≤ cap) (hmax : cap ≤ maxLen) (hsz : cap * S.sz c ≤ arr.size)
 (hc : ∀ (i : Nat) (x : S.U c) (j : Nat) (d : C S.toTyS), xs[i]? = some x → (S.row c x)[j]? = some d → ∃ u, arr[i * S.sz c + j]? = some u ∧ IRel S w ok u d) :
 Gam S fid X (σ.put id (some (.row false c xs))) a (w.alloc (.cells arr t)) ok (updW ρ id (.blk w.heap.size arr.size (S.sz c))) ∧
 DRel S fid (w.alloc (.cells arr t)) ok (updW ρ id (.blk w.heap.size arr.size (S.sz c))) (.slice (some ⟨w.heap.size, 0, none⟩) xs.length cap) (.c (.osl id 0 xs.length)) := by
 have hmono : ∀ b, ok b → (w.alloc (.cells arr t)).heap[b]? = w.heap[b]? := fun b hb => heap_alloc_old w _ b (g.mem.okl b hb)
 refine ⟨g.new hx hf rfl ⟨rfl, arr, t, heap_alloc_new w _, rfl, ?_, fun i x j d hx hd => ?_⟩, ?_⟩
 · exact Nat.le_trans (Nat.mul_le_mul_right _ hcap) hsz
 · obtain ⟨u, h1, h2⟩ := hc i x j d hx hd
   exact ⟨u, h1, h2.mono hmono (fun _ x => x)⟩
 · simp only [DRel, DRel1, CRel, updW_same]
   exact ⟨_, cap, rfl, hcap, hmax, fun _ => ⟨by simp, by simpa using hsz⟩⟩
theorem fill_rows {c : S.Ty} (g : Gam S fid X σ a w ok ρ) : ∀ (ps : List (Nat × Operand)) (ys : List (Opd S.toTyS)) (n : Nat) (arr : Array Value) (xs : List (S.U c)), okIdx S.toTyS fid n ps ys = true → rowsOf S σ c ys = some xs →
 (n + ps.length) * S.sz c ≤ arr.size → ∃ arr', Instr.fill (fun i => some (i * S.sz c, S.sz c)) arr (ps.map fun p => (p.1, a.eval p.2)) = some arr' ∧ arr'.size = arr.size ∧ xs.length = ps.length ∧
  (∀ m, m < n * S.sz c → arr'[m]? = arr[m]?) ∧ ∀ (i : Nat) x (j : Nat) d, xs[i]? = some x → (S.row c x)[j]? = some d → ∃ u, arr'[(n + i) * S.sz c + j]? = some u ∧ IRel S w ok u d
 | [], [], n, arr, xs, _, hr, _ => by
  simp [rowsOf] at hr
  subst hr
  exact ⟨arr, rfl, rfl, rfl, fun m _ => rfl, fun i x j d h => by simp at h⟩
 | [], _ :: _, _, _, _, h, _, _ => by simp [okIdx] at h
 | _ :: _, [], _, _, _, h, _, _ => by simp [okIdx] at h
 | (k, x) :: ps, y :: ys, n, arr, xs, h, hr, hsz => by
  simp only [okIdx, Bool.and_eq_true, beq_iff_eq] at h
  obtain ⟨⟨rfl, h1⟩, h2⟩ := h
  simp only [rowsOf] at hr
  split at hr
  case h_2 => cases hr
  rename_i cs hcs
  split at hr
  case h_2 => cases hr
  rename_i u us hu hus
  cases hr
  have hl2 := (okOpd_rel h1 g).cells_rel hcs
  obtain ⟨h3, h4⟩ := S.unrow_spec c cs u hu
  have hvs : (a.eval x).cells.size = S.sz c := by have := hl2.1; simp at this; omega
  have e0 : (k + ((k, x) :: ps).length) * S.sz c = k * S.sz c + S.sz c + ps.length * S.sz c := by simp only [List.length_cons, Nat.add_mul, Nat.one_mul]; omega
  rw [e0] at hsz
  obtain ⟨arr1, harr1⟩ : ∃ arr1 : Array Value, arr1 = (a.eval x).cells.zipIdx.foldl (fun cs (cj : Value × Nat) => cs.setIfInBounds (k * S.sz c + cj.2) cj.1) arr := ⟨_, rfl⟩
  have htl : arr1.toList = splice arr.toList (k * S.sz c) (a.eval x).cells.toList := by
   rw [harr1]
   have := fold_set (k * S.sz c) (a.eval x).cells.toList 0 arr (by simp; omega)
   rw [Nat.add_zero] at this
   rw [← this, ← Array.foldl_toList, Array.toList_zipIdx]
  have hfit : k * S.sz c + (a.eval x).cells.toList.length ≤ arr.toList.length := by simp; omega
  have hs1 : arr1.size = arr.size := by
   have := congrArg List.length htl
   rw [splice_length hfit] at this
   simpa using this
  have hg1 : ∀ m, arr1[m]? = if k * S.sz c ≤ m ∧ m < k * S.sz c + S.sz c then (a.eval x).cells[m - k * S.sz c]? else arr[m]? := by
   intro m
   have := splice_get hfit m
   rw [← htl, show (a.eval x).cells.toList.length = S.sz c by simp [hvs]] at this
   simpa using this
  obtain ⟨arr', h5, h6, h7, h8, h9⟩ := fill_rows g ps ys (k + 1) arr1 us h2 hus (by rw [hs1, Nat.add_mul, Nat.add_mul, Nat.one_mul]; omega)
  refine ⟨arr', ?_, by omega, by simp [h7], fun m hm => ?_, fun i x' j d hx hd => ?_⟩
  · simp only [List.map_cons, Instr.fill]
    rw [if_neg (by simp; omega)]
    rw [harr1] at h5
    exact h5
  · rw [h8 m (by rw [Nat.add_mul]; omega), hg1 m, if_neg (by omega)]
  · cases i with
    | zero =>
     simp at hx
     subst hx
     have hj : j < S.sz c := by
      have := (List.getElem?_eq_some_iff.1 hd).1
      rwa [S.row_len] at this
     have hj1 : j < (a.eval x).cells.toList.length := by simp; omega
     have hj2 : j < cs.length := by omega
     have hcr := hl2.2 j _ _ (List.getElem?_eq_getElem hj1) (List.getElem?_eq_getElem hj2)
     have hle := h4 j _ _ (List.getElem?_eq_getElem hj2) hd
     refine ⟨(a.eval x).cells.toList[j], ?_, (hcr.le hle).irel (S.row_data c u d (List.mem_of_getElem? hd))⟩
     rw [Nat.add_zero, h8 _ (by rw [Nat.add_mul]; omega), hg1, if_pos (by omega)]
     simp at hj1
     simp [hj1]
    | succ i =>
     simp at hx
     obtain ⟨v, h10, h11⟩ := h9 i x' j d hx hd
     rw [show k + 1 + i = k + (i + 1) by omega] at h10
     exact ⟨v, h10, h11⟩
theorem run_bslice {t e : TypeId} {n sz : Nat} {parts : Array (Nat × Value)} {z : Value} {zc cells : Array Value} (hu : P.underlying t = some (.slice e)) (hs : szOf P e = some sz)
 (hz : (zeroValue e).run P w = .ok z w) (h0 : n * sz = 0 → zc = #[]) (h1 : n * sz ≠ 0 → zc = z.cells) (hle : n * sz ≤ 2 ^ 24)
 (hf : Instr.fill (fun i => some (i * sz, sz)) ((Array.range (n * sz)).map (zc[· % zc.size]!)) parts.toList = some cells) :
 (Instr.buildSlice t n parts).run P w = .ok (.slice (some ⟨w.heap.size, 0, none⟩) n n) (w.alloc (.cells cells e)) := by
 have hle' : ¬ (n * sz > 2 ^ 24) := by omega
 by_cases hn : n * sz = 0
 · have := h0 hn
   subst this
   simp only [Instr.buildSlice, Sem.run_bind, run_underlying hu, Result.andThen_ok, run_sizeOf_of (w := w) hs, if_neg hle', if_pos hn, Sem.run_pure, hf, newRow, run_newObj]
   rfl
 · have := h1 hn
   subst this
   simp only [Instr.buildSlice, Sem.run_bind, run_underlying hu, Result.andThen_ok, run_sizeOf_of (w := w) hs, if_neg hle', if_neg hn, Sem.run_pure, hz, hf, newRow, run_newObj]
   rfl
theorem snd_bslice {k : Nat} {c : S.Ty} {ys : List (Opd S.toTyS)} (hc : chkI S P fid o.op (.bslice k c ys) = true) (g : Gam S fid X σ a w ok ρ) (hk : (IOp.bslice k c ys).vc O σ K) (hn : Owes S fid X a o next K w ok ρ T) : o.wp P a w next Q := by
 simp only [chkI] at hc
 split at hc
 case h_2 => cases hc
 case h_1 t n ps he =>
  simp only [Bool.and_eq_true, decide_eq_true_eq] at hc
  obtain ⟨⟨⟨h1, h2⟩, h3⟩, h4⟩ := hc
  obtain ⟨e, i, z, hu, hi, hz, hsz, _, _, hzc, _⟩ := okElem_spec h1
  simp only [IOp.vc, chk_iff, decide_eq_true_eq] at hk
  split at hk
  case h_2 => exact hk.elim
  rename_i xs hxs
  obtain ⟨hf, hK⟩ := hk
  have hpl : ps.toList.length = n := by
   have : ∀ (ps : List (Nat × Operand)) (ys : List (Opd S.toTyS)) n, okIdx S.toTyS fid n ps ys = true → ps.length = ys.length := by
    intro ps
    induction ps with
    | nil => intro ys n h; cases ys <;> simp_all [okIdx]
    | cons p ps ih => intro ys n h; cases ys with
     | nil => simp [okIdx] at h
     | cons y ys => simp only [okIdx, Bool.and_eq_true] at h; simp [ih ys _ h.2]
   rw [this _ _ _ h3, h2]
  obtain ⟨zc, hz0, hz1⟩ : ∃ zc : Array Value, (n * S.sz c = 0 → zc = #[]) ∧ (n * S.sz c ≠ 0 → zc = z.cells) := by
   by_cases h : n * S.sz c = 0
   · exact ⟨#[], fun _ => rfl, fun h' => absurd h h'⟩
   · exact ⟨z.cells, fun h' => absurd h' h, fun _ => rfl⟩
  obtain ⟨arr', h5, h6, h7, _, h9⟩ := fill_rows g ps.toList ys 0 ((Array.range (n * S.sz c)).map (zc[· % zc.size]!)) xs h3 hxs (by rw [hpl]; simp)
  have hxl : xs.length = n := by omega
  have has : arr'.size = n * S.sz c := by rw [h6]; simp
  have hnb : n ≤ maxLen := by
   have := Nat.le_mul_of_pos_right n (S.sz_pos c)
   simp only [maxLen]; omega
  obtain ⟨g', hd⟩ := new_row (arr := arr') (c := c) (xs := xs) g (by intro j h; cases h) hf e n (by omega) hnb (by omega) (fun i x j d hx hd => by have := h9 i x j d hx hd; rwa [Nat.zero_add] at this)
  refine wp_value ?_ (hn _ _ _ _ _ _ hK g' hd (.alloc _ _ _ _ (g.mem.gone _ (St.fresh_none hf))))
  have hrun := run_bslice (P := P) (w := w) (t := t) (n := n) (parts := ps.map fun p => (p.1, a.eval p.2)) (z := z) hu (show szOf P e = some (S.sz c) by simp [szOf, hi, hsz]) (by simp [zeroValue, typeInfo, hi, hz]) hz0 hz1 h4 (by simpa using h5)
  simp only [execOp, he, Sem.run_bind, hrun, Result.andThen_ok, Sem.run_pure, hxl]
theorem snd_mk {k : Nat} {c : S.Ty} {zz : S.U c} {mx : Nat} {y : Opd S.toTyS} (hc : chkI S P fid o.op (.mk k c zz mx y) = true) (g : Gam S fid X σ a w ok ρ) (hk : (IOp.mk k c zz mx y).vc O σ K) (hn : Owes S fid X a o next K w ok ρ T) : o.wp P a w next Q := by
 simp only [chkI] at hc
 split at hc
 case h_2 => cases hc
 case h_1 t l r he =>
  simp only [Bool.and_eq_true] at hc
  obtain ⟨⟨⟨h1, h2⟩, h3⟩, h4⟩ := hc
  obtain ⟨e, i, z, hu, hi, hz, hsz, hb1, hb2, hzc, hone⟩ := okElem_spec h3
  have hel : elemOfB P t = some e := by simp [elemOfB, hu]
  rw [hel] at h4
  obtain ⟨z', _, hzz, hz'⟩ := okZero_spec (w := w) h4
  have : z' = z := by simp [hi, hz] at hz'; exact hz'.symm
  subst this
  obtain ⟨hzl, _⟩ := okConsts_rel (fid := fid) (w := w) (ok := ok) (ρ := ρ) hzz
  have r1 := okOpd_rel h1 g
  have r2 := okOpd_rel h2 g
  simp only [IOp.vc, chk_iff, decide_eq_true_eq] at hk
  split at hk
  case h_2 => exact hk.elim
  rename_i kk n hq
  rw [hq] at r1 r2
  have v1 : a.eval l = .int kk n := r1
  have v2 : a.eval r = .int kk n := r2
  obtain ⟨⟨h5, h6⟩, hf, hK⟩ := hk
  obtain ⟨m, rfl⟩ := Int.eq_ofNat_of_zero_le h5
  have hm : m ≤ mx := by omega
  have hb3 : i.bytes * m ≤ 281474976710656 := by
   have h7 := Nat.mul_le_mul_right i.bytes (show m ≤ 4 * mx by omega)
   rw [Nat.mul_comm]
   omega
  have hrun := run_make (P := P) w t e i z' hu hi hz kk kk m m (by omega) (Int.le_refl _) (by have : ((i.bytes * m : Nat) : Int) ≤ 281474976710656 := by omega
                                                                                              rwa [Int.natCast_mul] at this) (by omega)
  simp only [Int.toNat_natCast] at hrun hK
  have hms : (madeCells z'.cells (m * i.size)).size = m * S.sz c := by simp [madeCells, hsz]
  obtain ⟨g', hd⟩ := new_row (arr := madeCells z'.cells (m * i.size)) (c := c) (xs := List.replicate m zz) g (by intro j h; cases h) hf e m (by simp) (by simp only [maxLen]; omega) (by rw [hms]; exact Nat.le_refl _) (fun ii x j d hx hd => by
   have hx1 := (List.getElem?_eq_some_iff.1 hx).1
   have hx2 : x = zz := by
    have := List.mem_of_getElem? hx
    exact List.eq_of_mem_replicate this
   subst hx2
   have hj : j < S.sz c := by
    have := (List.getElem?_eq_some_iff.1 hd).1
    rwa [S.row_len] at this
   have hj1 : j < z'.cells.toList.length := by simp; omega
   refine ⟨z'.cells.toList[j], ?_, (hzl.2 j _ _ (List.getElem?_eq_getElem hj1) hd).irel (S.row_data c x d (List.mem_of_getElem? hd))⟩
   simp at hx1
   have hlt : ii * S.sz c + j < m * S.sz c := by
    have := Nat.mul_le_mul_right (S.sz c) hx1
    rw [Nat.succ_mul] at this
    omega
   have hmod : (ii * S.sz c + j) % z'.cells.size = j := by rw [hzc, Nat.add_comm, Nat.add_mul_mod_self_right, Nat.mod_eq_of_lt hj]
   simp at hj1
   simp [madeCells, hsz, hlt, hmod, hj1])
  refine wp_value ?_ (hn _ _ _ _ _ _ hK g' (by simpa using hd) (.alloc _ _ _ _ (g.mem.gone _ (St.fresh_none hf))))
  simp [execOp, he, v1, v2, hrun]
theorem bound_some {d : D S.toTyS} {dflt : Nat} {K' : Nat → Prop} (h : bound (some d) dflt K') : ∃ k n, d = .c (.int k n) ∧ 0 ≤ n ∧ K' n.toNat := by
 cases d with
 | c x => cases x with
  | int k n => exact ⟨k, n, rfl, h⟩
  | _ => exact h.elim
 | _ => exact h.elim
theorem bound_opd {x : Option Operand} {y : Option (Opd S.toTyS)} (h : okOpdO S.toTyS fid x y = true) (g : Gam S fid X σ a w ok ρ) {dflt : Nat} {K' : Nat → Prop} (hb : bound (mapOpt σ.ev y) dflt K') :
 ∃ n : Nat, K' n ∧ ((x.map a.eval = none ∧ n = dflt) ∨ ∃ k, x.map a.eval = some (.int k n)) := by
 cases x <;> cases y <;> simp [okOpdO] at h
 · exact ⟨dflt, hb, .inl ⟨rfl, rfl⟩⟩
 · rename_i x y
   obtain ⟨k, n, e, h0, hK⟩ := bound_some hb
   have r := okOpd_rel h g
   rw [e] at r
   have hv : a.eval x = .int k n := r
   exact ⟨n.toNat, hK, .inr ⟨k, by simp [hv]; omega⟩⟩
theorem run_bounds (isSlice : Bool) {len cap l h : Nat} {lo hi : Option Value} (hl : (lo = none ∧ l = 0) ∨ ∃ k, lo = some (.int k l)) (hh : (hi = none ∧ h = len) ∨ ∃ k, hi = some (.int k h)) (h1 : l ≤ h) (h2 : h ≤ cap) :
 (Instr.sliceBounds isSlice len cap lo hi none).run P w = .ok (l, h, cap) w := by
 rcases hl with ⟨rfl, rfl⟩ | ⟨k, rfl⟩ <;> rcases hh with ⟨rfl, rfl⟩ | ⟨k', rfl⟩
 · simp [Instr.sliceBounds]
 · simp [Instr.sliceBounds, Instr.sliceBound, asIntOf, h2]
 · simp [Instr.sliceBounds, Instr.sliceBound, asIntOf, h1]
 · simp [Instr.sliceBounds, Instr.sliceBound, asIntOf, h1, h2]
theorem run_slice_of {t e : TypeId} {sz len cap l h : Nat} {base : Option Addr} {lo hi : Option Value} (hu : P.underlying t = some (.slice e)) (hs : szOf P e = some sz)
 (hl : (lo = none ∧ l = 0) ∨ ∃ k, lo = some (.int k l)) (hh : (hi = none ∧ h = len) ∨ ∃ k, hi = some (.int k h)) (h1 : l ≤ h) (h2 : h ≤ cap) :
 (Instr.sliceAt t (.slice base len cap) lo hi none).run P w = .ok (.slice (if cap = l then base else base.map (·.add (l * sz))) (h - l) (cap - l)) w := by
 have hb := run_bounds (P := P) (w := w) true hl hh h1 h2
 simp only [Instr.sliceAt, Instr.slice, Sem.run_bind, run_underlying hu, Result.andThen_ok, hb, run_sizeOf_of (w := w) hs, Sem.run_pure]
theorem run_slice_str {t : TypeId} {l h : Nat} {s : ByteArray} {lo hi : Option Value} (hu : P.underlying t = some .string)
 (hl : (lo = none ∧ l = 0) ∨ ∃ k, lo = some (.int k l)) (hh : (hi = none ∧ h = s.size) ∨ ∃ k, hi = some (.int k h)) (h1 : l ≤ h) (h2 : h ≤ s.size) :
 (Instr.sliceAt t (.string s) lo hi none).run P w = .ok (.string (s.extract l h)) w := by
 have hb := run_bounds (P := P) (w := w) false hl hh h1 h2
 simp [Instr.sliceAt, Instr.slice, run_underlying hu, hb]
theorem ISl.sub {base : Option Addr} {cap : Nat} {c : S.Ty} {xs : List (S.U c)} (h : ISl S w ok base cap c xs) {l n : Nat} (hn : l + n ≤ xs.length) :
 ISl S w ok (if cap = l then base else base.map (·.add (l * S.sz c))) (cap - l) c ((xs.drop l).take n) := by
 obtain ⟨h1, h2, h3⟩ := h
 refine ⟨by simp; omega, by omega, fun hne => ?_⟩
 have hnp : 0 < n := by
  rcases Nat.eq_zero_or_pos n with e | e
  · subst e; simp at hne
  · exact e
 obtain ⟨blk, off, rfl, hok, hc⟩ := h3 (by rintro rfl; simp at hn; omega)
 refine ⟨blk, off + l * S.sz c, by rw [if_neg (by omega)]; simp [add_at], hok, fun i x j d hx hd => ?_⟩
 have hx' := (getElem?_drop_take hx).1
 obtain ⟨u, h4, h5⟩ := hc _ _ _ _ hx' hd
 exact ⟨u, by rw [show off + l * S.sz c + i * S.sz c + j = off + (l + i) * S.sz c + j by rw [Nat.add_mul]; omega]; exact h4, h5⟩
theorem py_slc {sz : Nat} {y : Opd S.toTyS} {lo hi : Option (Opd S.toTyS)} (hc : chkI S P fid o.op (.slc sz y lo hi) = true) (g : Gam S fid X σ a w ok ρ) (hk : (IOp.slc sz y lo hi).vc O σ K) : PY S fid P a w ok ρ o σ K := by
 simp only [chkI] at hc
 split at hc
 case h_2 => cases hc
 case h_1 t x lo' hi' he =>
  simp only [Bool.and_eq_true] at hc
  obtain ⟨⟨⟨h1, h2⟩, h3⟩, h4⟩ := hc
  have r1 := okOpd_rel h1 g
  simp only [IOp.vc, chk_iff, decide_eq_true_eq] at hk
  split at hk
  · rename_i c xs hq
    rw [hq] at r1
    obtain ⟨hsz, hk⟩ := hk
    obtain ⟨h, hk, hh⟩ := bound_opd h3 g hk
    obtain ⟨l, hk, hl⟩ := bound_opd h2 g hk
    obtain ⟨⟨h5, h6⟩, hK⟩ := hk
    obtain ⟨base, cap, v1, hisl⟩ := IRel.isl_inv r1
    split at h4
    case h_3 => cases h4
    · rename_i e hu
      simp only [Bool.and_eq_true, decide_eq_true_eq] at h4
      have h4 := h4.1
      have hrun := fun w => run_slice_of (P := P) (w := w) (base := base) (cap := cap) hu h4 hl hh h5 (by have := hisl.1; omega)
      subst hsz
      have := IRel.of_isl (hisl.sub (l := l) (n := h - l) (by omega))
      rw [show ((xs.drop l).take (h - l)).length = h - l by simp; omega] at this
      exact PY.intro (by intro w; simp only [execOp, he, v1, Option.map_none, Sem.run_bind, hrun, Result.andThen_ok, Sem.run_pure]) hK (this)
    · simp at h4
      have := S.sz_pos c
      omega
  · rename_i id off ln hq
    rw [hq] at r1
    obtain ⟨hsz, hk⟩ := hk
    obtain ⟨h, hk, hh⟩ := bound_opd h3 g hk
    obtain ⟨l, hk, hl⟩ := bound_opd h2 g hk
    obtain ⟨⟨h5, h6⟩, hK⟩ := hk
    obtain ⟨en, hid, hpos, hun⟩ := entSz_live (fid := fid) (w := w) (ok := ok) (ρ := ρ) hsz
    have hm := g.mem.live id _ hid
    have r1' : CRel S fid w ok ρ (a.eval x) (.osl id off ln) := r1
    split at h4
    case h_3 => cases h4
    · rename_i e hu
      simp only [Bool.and_eq_true, decide_eq_true_eq] at h4
      have h4 := h4.1
      simp only [CRel] at r1'
      cases hw : ρ id with
      | dead => rw [hw] at hm; exact hm.elim
      | empty =>
       rw [hw] at r1'
       obtain ⟨rfl, rfl, v1⟩ := r1'
       have hrun := fun w => run_slice_of (P := P) (w := w) (base := none) (cap := 0) hu h4 hl hh h5 (by omega)
       have e1 : h = 0 := by omega
       have e2 : l = 0 := by omega
       refine PY.intro (v := .slice none 0 0) (by intro w; simp [execOp, he, v1, hrun, e1, e2]) hK ?_
       simp only [DRel, DRel1, CRel, hw]
       exact ⟨by omega, by omega, trivial⟩
      | blk b n s =>
       rw [hw] at hm r1'
       obtain rfl := hun b n s hm
       obtain ⟨base, cap, v1, h7, h8, h9⟩ := r1'
       have hrun := fun w => run_slice_of (P := P) (w := w) (base := base) (cap := cap) hu h4 hl hh h5 (by omega)
       refine PY.intro (v := .slice (if cap = l then base else base.map (·.add (l * s))) (h - l) (cap - l)) (by intro w; simp only [execOp, he, v1, Option.map_none, Sem.run_bind, hrun, Result.andThen_ok, Sem.run_pure]) hK (?_)
       simp only [DRel, DRel1, CRel, hw]
       refine ⟨_, cap - l, rfl, by omega, by omega, fun hp => ?_⟩
       obtain ⟨rfl, h10⟩ := h9 (by omega)
       rw [if_neg (by omega)]
       refine ⟨by simp [add_at, Nat.add_mul], ?_⟩
       rw [show off + l + (cap - l) = off + cap by omega]; exact h10
    · simp at h4
      omega
  · rename_i s hq
    rw [hq] at r1
    have v1 : a.eval x = .string s := r1
    obtain ⟨rfl, hk⟩ := hk
    obtain ⟨h, hk, hh⟩ := bound_opd h3 g hk
    obtain ⟨l, hk, hl⟩ := bound_opd h2 g hk
    obtain ⟨⟨h5, h6⟩, hK⟩ := hk
    split at h4
    case h_3 => cases h4
    · simp at h4
    · rename_i hu
      have hrun := fun w => run_slice_str (P := P) (w := w) (s := s) hu hl hh h5 h6
      exact PY.intro (by intro w; simp only [execOp, he, v1, Option.map_none, Sem.run_bind, hrun, Result.andThen_ok, Sem.run_pure]) hK (rfl)
  · exact hk.elim
end Go.Clap
