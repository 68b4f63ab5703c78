/- The checks of the small code against the loaded functions. -/
import Derived.Test.YtnjgakngmbbmfaaGreatDoorClapSound2
import Derived.Laws.StructEq
import Derived.ChangeKeysEq
set_option linter.unusedVariables false
set_option linter.unusedSimpArgs false
namespace Go.Clap
variable {S : Sig} {fid : Nat → FuncId} {P : Program} {X : Ctx S} {σ : St S.toTyS} {a : Act} {w : World} {ok : Nat → Prop} {ρ : Id → Where}
variable {o : Oper} {next : Act → World → Prop} {Q : Exit → Act → World → Prop} {K : D S.toTyS → St S.toTyS → Prop} {O : Oracle S.toTyS} {T : Id → Prop}
theorem run_eqGuard_int (op : BinOp) (t : TypeId) (x y : Operand) (k : IntKind) (n : Int) (v : Value) : (eqGuard op t x y (.int k n) v).run P w = .ok () w := by
 cases op <;> simp [eqGuard]
theorem run_eqGuard_str (op : BinOp) (t : TypeId) (x y : Operand) (s : ByteArray) (v : Value) : (eqGuard op t x y (.string s) v).run P w = .ok () w := by
 cases op <;> simp [eqGuard]
theorem run_eqGuard_bool (op : BinOp) (t : TypeId) (x y : Operand) (b : Bool) (v : Value) : (eqGuard op t x y (.bool b) v).run P w = .ok () w := by
 cases op <;> simp [eqGuard]
theorem run_eqGuard_slice (op : BinOp) (t : TypeId) (x y : Operand) (b : Option Addr) (l c : Nat) (v : Value) : (eqGuard op t x y (.slice b l c) v).run P w = .ok () w := by
 cases op <;> simp [eqGuard]
theorem run_eqGuard_ptr (op : BinOp) (t : TypeId) (x y : Operand) (b : Option Addr) (v : Value) : (eqGuard op t x y (.pointer b) v).run P w = .ok () w := by
 cases op <;> simp [eqGuard]
theorem equalIn_bool (d : Nat) (t : TypeId) (a b : Bool) (h : P.underlying t = some .bool) : (Op.equalIn (d + 1) t (.bool a) (.bool b)).run P w = .ok (a == b) w := by
 simp [Op.equalIn, run_underlying h]
theorem equalIn_slice (d : Nat) (t e : TypeId) (a : Option Addr) (l c : Nat) (h : P.underlying t = some (.slice e)) : (Op.equalIn (d + 1) t (.slice a l c) (.slice none 0 0)).run P w = .ok a.isNone w := by
 cases a <;> simp [Op.equalIn, run_underlying h]
theorem equalIn_ptr (d : Nat) (t e : TypeId) (h : P.underlying t = some (.pointer e)) : (Op.equalIn (d + 1) t (.pointer none) (.pointer none)).run P w = .ok true w := by
 simp [Op.equalIn, run_underlying h]
theorem equal_bool (t : TypeId) (a b : Bool) (h : P.underlying t = some .bool) : (Op.equal t (.bool a) (.bool b)).run P w = .ok (a == b) w := equalIn_bool 9999 t a b h
theorem equal_slice (t e : TypeId) (a : Option Addr) (l c : Nat) (h : P.underlying t = some (.slice e)) : (Op.equal t (.slice a l c) (.slice none 0 0)).run P w = .ok a.isNone w := equalIn_slice 9999 t e a l c h
theorem equal_ptr (t e : TypeId) (h : P.underlying t = some (.pointer e)) : (Op.equal t (.pointer none) (.pointer none)).run P w = .ok true w := equalIn_ptr 9999 t e h
theorem binInt_run {op : BinOp} {t : TypeId} {k : IntKind} {x y : Int} {K' : C S.toTyS → Prop} (hs : ¬ (op = .shl ∨ op = .shr)) (h : binInt op k x y K') :
 ∃ v c, (∀ w, (Go.binOp op t (.int k x) (.int k y)).run P w = .ok v w) ∧ K' c ∧ CRel S fid w ok ρ v c := by
 cases op <;> simp only [binInt] at h
 case quo => exact ⟨_, _, by intro w; simp only [Go.binOp, Op.intDiv, if_neg h.1, Sem.run_pure]; simp, h.2, rfl⟩
 case rem => exact ⟨_, _, by intro w; simp only [Go.binOp, Op.intDiv, if_neg h.1, Sem.run_pure]; simp, h.2, rfl⟩
 all_goals first
  | exact ⟨_, _, by intro w; simp only [Go.binOp, Op.intArith, Op.intCmp, Op.intBits, ne_eq, not_true_eq_false, if_false, Sem.run_pure], h, rfl⟩
  | exact ⟨_, _, by intro w; simp only [Go.binOp, Op.intArith, Op.intCmp, Op.intBits, ne_eq, not_true_eq_false, if_false, Sem.run_pure], h _ rfl, rfl⟩
theorem binStr_run {op : BinOp} {t : TypeId} {x y : ByteArray} {K' : C S.toTyS → Prop} (h : binStr op x y K') :
 ∃ v c, (∀ w, (Go.binOp op t (.string x) (.string y)).run P w = .ok v w) ∧ K' c ∧ CRel S fid w ok ρ v c := by
 cases op <;> simp only [binStr] at h
 case add =>
  refine ⟨.string (x ++ y), _, ?_, h.2, rfl⟩
  have : ¬ (((x.size + y.size : Nat) : Int) > IntKind.i64.max) := by
   have h1 := h.1
   simp [IntKind.max, IntKind.signed, IntKind.bits] at h1 ⊢
   omega
  intro w; simp only [Go.binOp, Op.stringOp, if_neg this, Sem.run_pure]
 all_goals first
  | exact h.elim
  | exact ⟨_, _, by intro w; simp only [Go.binOp, Op.stringOp, Sem.run_pure], h, rfl⟩
  | exact ⟨_, _, by intro w; simp only [Go.binOp, Op.stringOp, Sem.run_pure], h _ rfl, rfl⟩
theorem binShift_run {op : BinOp} {t : TypeId} {k k' : IntKind} {x y : Int} {K' : C S.toTyS → Prop} (h : binShift op k x y K') :
 ∃ v c, (∀ w, (Go.binOp op t (.int k x) (.int k' y)).run P w = .ok v w) ∧ K' c ∧ CRel S fid w ok ρ v c := by
 obtain ⟨h0, h⟩ := h
 have hn : ¬ y < 0 := by omega
 cases op <;> simp only at h
 case shl => exact ⟨_, _, by intro w; simp [Go.binOp, Op.shift, hn], h, rfl⟩
 case shr => exact ⟨_, _, by intro w; simp [Go.binOp, Op.shift, hn], h, rfl⟩
 all_goals exact h.elim
theorem part_plain {t : TypeId} (hu : (match P.underlying t with | some (.int _) => true | _ => false) = true) {xs : Array Value} {i : Nat} {v : Value} (hx : xs[i]? = some v) : (part t xs i).run P w = .ok v w := by
 have ha : isAggB P t = some false := by
  unfold isAggB
  split at hu <;> first | (rename_i h; rw [h]) | cases hu
 have h1 := run_isAgg_of (w := w) ha
 simp [part, h1, hx]
theorem eqFields_run {d : Nat} {xs ys : Array Value} {cs ds : List (C S.toTyS)} (hx : LRel S fid w ok ρ xs.toList cs) (hy : LRel S fid w ok ρ ys.toList ds) :
 ∀ (fs : List Field) (i : Nat) (b : Bool), okPlain P i fs = true → cs.length = i + fs.length → eqCells (cs.drop i) (ds.drop i) = some b → ∀ w', (Op.eqFields (d + 1) xs ys fs).run P w' = .ok b w'
 | [], i, b, _, hl, he, w' => by
  rw [List.drop_eq_nil_of_le (show cs.length ≤ i by simp at hl; omega)] at he
  cases hdd : ds.drop i with
  | nil => rw [hdd] at he; simp [eqCells] at he; subst he; simp [Op.eqFields]
  | cons _ _ => rw [hdd] at he; simp [eqCells] at he
 | f :: fs, i, b, hp, hl, he, w' => by
  simp only [okPlain, Bool.and_eq_true, decide_eq_true_eq] at hp
  obtain ⟨⟨⟨h1, h2⟩, h3⟩, h4⟩ := hp
  simp only [List.length_cons] at hl
  have hic : i < cs.length := by omega
  rw [List.drop_eq_getElem_cons hic] at he
  have hid : i < ds.length := by
   rcases Nat.lt_or_ge i ds.length with h | h
   · exact h
   · rw [List.drop_eq_nil_of_le h] at he
     cases hc : cs[i] <;> rw [hc] at he <;> simp [eqCells] at he
  rw [List.drop_eq_getElem_cons hid] at he
  have hix : i < xs.toList.length := by rw [hx.1]; exact hic
  have hiy : i < ys.toList.length := by rw [hy.1]; exact hid
  have e1 : xs[i]? = some xs.toList[i] := by rw [← Array.getElem?_toList]; exact List.getElem?_eq_getElem hix
  have e2 : ys[i]? = some ys.toList[i] := by rw [← Array.getElem?_toList]; exact List.getElem?_eq_getElem hiy
  have r1 := hx.2 i _ _ (List.getElem?_eq_getElem hix) (List.getElem?_eq_getElem hic)
  have r2 := hy.2 i _ _ (List.getElem?_eq_getElem hiy) (List.getElem?_eq_getElem hid)
  have key : ∀ (q b' : Bool), (∀ w', (Op.equalIn (d + 1) f.type xs.toList[i] ys.toList[i]).run P w' = .ok q w') → eqCells (cs.drop (i + 1)) (ds.drop (i + 1)) = some b' → b = (q && b') → (Op.eqFields (d + 1) xs ys (f :: fs)).run P w' = .ok b w' := by
   intro q b' hq hb hbb
   have ih := eqFields_run (d := d) hx hy fs (i + 1) b' h4 (by omega) hb w'
   have p1 := fun w' => part_plain (w := w') h3 e1
   have p2 := fun w' => part_plain (w := w') h3 e2
   simp only [Op.eqFields, if_pos h2, Sem.run_bind, h1, p1, p2, Result.andThen_ok, hq]
   cases q
   · simp [hbb]
   · simp [hbb, ih]
  cases hc : cs[i] with
  | int k n =>
   cases hd : ds[i] with
   | int k' n' =>
    rw [hc, hd] at he
    simp only [eqCells] at he
    split at he
    · rename_i hk
      subst hk
      simp only [Option.map_eq_some_iff] at he
      obtain ⟨b', hb, rfl⟩ := he
      rw [hc] at r1
      rw [hd] at r2
      have v1 : xs.toList[i] = .int k n := r1
      have v2 : ys.toList[i] = .int k n' := r2
      split at h3
      · rename_i kk hu
        exact key (n == n') b' (fun w' => by rw [v1, v2]; exact run_equalIn_int w' d _ k kk n n' hu) hb rfl
      · cases h3
    · cases he
   | _ => rw [hc, hd] at he; simp [eqCells] at he
  | _ => rw [hc] at he; cases hd : ds[i] <;> rw [hd] at he <;> simp [eqCells] at he
theorem szOf_cellsOf {e : TypeId} {n : Nat} (h : szOf P e = some n) : P.cellsOf e = n := by
 unfold szOf at h
 simp only [Option.map_eq_some_iff] at h
 obtain ⟨i, hi, rfl⟩ := h
 simp [Program.cellsOf, hi]
theorem eqItems_run {d : Nat} {e : TypeId} {kk : IntKind} (hu : P.underlying e = some (.int kk)) {xs ys : Array Value} {cs ds : List (C S.toTyS)} (hx : LRel S fid w ok ρ xs.toList cs) (hy : LRel S fid w ok ρ ys.toList ds) :
 ∀ (m i : Nat) (b : Bool), cs.length = i + m → eqCells (cs.drop i) (ds.drop i) = some b → ∀ w', (Op.eqItems (d + 1) e 1 xs ys (List.range' i m)).run P w' = .ok b w'
 | 0, i, b, hl, he, w' => by
  rw [List.drop_eq_nil_of_le (show cs.length ≤ i by omega)] at he
  cases hdd : ds.drop i with
  | nil => rw [hdd] at he; simp [eqCells] at he; subst he; simp [Op.eqItems]
  | cons _ _ => rw [hdd] at he; simp [eqCells] at he
 | m + 1, i, b, hl, he, w' => by
  have hic : i < cs.length := by omega
  rw [List.drop_eq_getElem_cons hic] at he
  have hid : i < ds.length := by
   rcases Nat.lt_or_ge i ds.length with h | h
   · exact h
   · rw [List.drop_eq_nil_of_le h] at he
     cases hc : cs[i] <;> rw [hc] at he <;> simp [eqCells] at he
  rw [List.drop_eq_getElem_cons hid] at he
  have hix : i < xs.toList.length := by rw [hx.1]; exact hic
  have hiy : i < ys.toList.length := by rw [hy.1]; exact hid
  have e1 : xs[i]? = some xs.toList[i] := by rw [← Array.getElem?_toList]; exact List.getElem?_eq_getElem hix
  have e2 : ys[i]? = some ys.toList[i] := by rw [← Array.getElem?_toList]; exact List.getElem?_eq_getElem hiy
  have r1 := hx.2 i _ _ (List.getElem?_eq_getElem hix) (List.getElem?_eq_getElem hic)
  have r2 := hy.2 i _ _ (List.getElem?_eq_getElem hiy) (List.getElem?_eq_getElem hid)
  have h3 : (match P.underlying e with | some (.int _) => true | _ => false) = true := by rw [hu]
  have p1 := fun w' => part_plain (w := w') h3 e1
  have p2 := fun w' => part_plain (w := w') h3 e2
  cases hc : cs[i] with
  | int k n =>
   cases hd : ds[i] with
   | int k' n' =>
    rw [hc, hd] at he
    simp only [eqCells] at he
    split at he
    · rename_i hk
      subst hk
      simp only [Option.map_eq_some_iff] at he
      obtain ⟨b', hb, rfl⟩ := he
      rw [hc] at r1
      rw [hd] at r2
      have v1 : xs.toList[i] = .int k n := r1
      have v2 : ys.toList[i] = .int k n' := r2
      have ih := eqItems_run (d := d) hu hx hy m (i + 1) b' (by omega) hb w'
      have hq := fun w' => run_equalIn_int (P := P) w' d e k kk n n' hu
      simp only [List.range'_succ, Op.eqItems, Nat.mul_one, Sem.run_bind, p1, p2, Result.andThen_ok, v1, v2, hq]
      cases n == n'
      · simp
      · simp [ih]
    · cases he
   | _ => rw [hc, hd] at he; simp [eqCells] at he
  | _ => rw [hc] at he; cases hd : ds[i] <;> rw [hd] at he <;> simp [eqCells] at he
theorem key_equal {n : Nat} {t : TypeId} (hk : okKey P n t = true) {xs ys : Array Value} {cs ds : List (C S.toTyS)} (hx : LRel S fid w ok ρ xs.toList cs) (hy : LRel S fid w ok ρ ys.toList ds) (hl : cs.length = n)
 {b : Bool} (he : eqCells cs ds = some b) (w' : World) : (Op.equal t (.agg xs) (.agg ys)).run P w' = .ok b w' := by
 unfold okKey at hk
 split at hk
 · rename_i fs hu
   simp only [Bool.and_eq_true, decide_eq_true_eq, Bool.not_eq_true'] at hk
   obtain ⟨⟨h1, h2⟩, h3⟩ := hk
   have hf : P.fieldsOf t = fs := by simp [Program.fieldsOf, hu]
   show (Op.equalIn (9999 + 1) t _ _).run P w' = _
   rw [run_equalIn_struct w' 9999 t xs ys (by rw [hf]; exact hu) h3, hf]
   exact eqFields_run (d := 9998) hx hy fs.toList 0 b h1 (by omega) (by simpa using he) w'
 · rename_i m e hu
   simp only [Bool.and_eq_true, decide_eq_true_eq] at hk
   obtain ⟨⟨rfl, h2⟩, h3⟩ := hk
   split at h3
   case h_2 => cases h3
   rename_i kk hkk
   have hce := szOf_cellsOf h2
   unfold szOf at h2
   simp only [Option.map_eq_some_iff] at h2
   obtain ⟨i, hi, _⟩ := h2
   show (Op.equalIn (9999 + 1) t _ _).run P w' = _
   rw [run_equalIn_array w' 9999 xs ys hu hi, hce, List.range_eq_range']
   exact eqItems_run (d := 9998) hkk hx hy m 0 b (by omega) (by simpa using he) w'
 · cases hk
theorem py_bin {op : BinOp} {ty : BTy} {y z : Opd S.toTyS} (hc : chkI S P fid o.op (.bin op ty y z) = true) (g : Gam S fid X σ a w ok ρ) (hk : (IOp.bin op ty y z).vc O σ K) : PY S fid P a w ok ρ o σ K := by
 simp only [chkI] at hc
 split at hc
 case h_2 => cases hc
 case h_1 op' t x x' yt he =>
  simp only [Bool.and_eq_true, decide_eq_true_eq] at hc
  obtain ⟨⟨⟨rfl, h1⟩, h2⟩, h3⟩ := hc
  have r1 := okOpd_rel h1 g
  have r2 := okOpd_rel h2 g
  have fin : ∀ v c, (∀ w, (eqGuard op t x x' (a.eval x) (a.eval x')).run P w = .ok () w) → (∀ w, (Go.binOp op t (a.eval x) (a.eval x')).run P w = .ok v w) → K (.c c) σ → CRel S fid w ok ρ v c → PY S fid P a w ok ρ o σ K := by
   intro v c e1 e2 hK hr
   exact PY.intro (v := v) (by simp [execOp, he, e1, e2]) hK (hr)
  simp only [IOp.vc, vcBin, chk_iff, eqNe_iff, decide_eq_true_eq] at hk
  split at hk
  · rename_i k n k' n' hq hj
    rw [hq] at r1
    rw [hj] at r2
    have v1 : a.eval x = .int k n := r1
    have v2 : a.eval x' = .int k' n' := r2
    split at hk
    · obtain ⟨v, c, e, hK, hr⟩ := binShift_run (P := P) (fid := fid) (w := w) (ok := ok) (ρ := ρ) (t := t) (k' := k') hk
      exact fin v c (fun w => by rw [v1]; exact run_eqGuard_int _ _ _ _ _ _ _) (fun w => by rw [v1, v2]; exact e w) hK hr
    · rename_i hs
      obtain ⟨rfl, hk⟩ := hk
      obtain ⟨v, c, e, hK, hr⟩ := binInt_run (P := P) (fid := fid) (w := w) (ok := ok) (ρ := ρ) (t := t) hs hk
      exact fin v c (fun w => by rw [v1]; exact run_eqGuard_int _ _ _ _ _ _ _) (fun w => by rw [v1, v2]; exact e w) hK hr
  · rename_i s s' hq hj
    rw [hq] at r1
    rw [hj] at r2
    have v1 : a.eval x = .string s := r1
    have v2 : a.eval x' = .string s' := r2
    obtain ⟨v, c, e, hK, hr⟩ := binStr_run (P := P) (fid := fid) (w := w) (ok := ok) (ρ := ρ) (t := t) hk
    exact fin v c (fun w => by rw [v1]; exact run_eqGuard_str _ _ _ _ _ _) (fun w => by rw [v1, v2]; exact e w) hK hr
  · rename_i b b' hq hj
    rw [hq] at r1
    rw [hj] at r2
    have v1 : a.eval x = .bool b := r1
    have v2 : a.eval x' = .bool b' := r2
    have hu : P.underlying t = some .bool := by
     simp only [okBTy] at h3
     split at h3
     · assumption
     · cases h3
    have he1 : ∀ w, (Op.equal t (.bool b) (.bool b')).run P w = .ok (b == b') w := fun w => equal_bool _ _ _ hu
    rcases hk with ⟨rfl, hK⟩ | ⟨rfl, hK⟩
    · exact fin (.bool (b == b')) _ (fun w => by rw [v1]; exact run_eqGuard_bool _ _ _ _ _ _) (fun w => by rw [v1, v2]; simp [Go.binOp, he1 w]) hK rfl
    · exact fin (.bool (!(b == b'))) _ (fun w => by rw [v1]; exact run_eqGuard_bool _ _ _ _ _ _) (fun w => by rw [v1, v2]; simp [Go.binOp, he1 w]) hK rfl
  · rename_i c xs hq hj
    rw [hq] at r1
    rw [hj] at r2
    obtain ⟨base, cap, v1, hcap, hmax, hisl⟩ := IRel.isl_inv r1
    have hbase : xs ≠ [] → base.isNone = false := fun hne => by obtain ⟨blk, off, rfl, _⟩ := hisl hne; rfl
    have v2 : a.eval x' = .slice none 0 0 := r2
    obtain ⟨e, hu⟩ : ∃ e, P.underlying t = some (.slice e) := by
     simp only [okBTy] at h3
     split at h3
     · exact ⟨_, by assumption⟩
     · cases h3
    have he1 : ∀ w, (Op.equal t (.slice base xs.length cap) (.slice none 0 0)).run P w = .ok base.isNone w := fun w => equal_slice _ _ _ _ _ hu
    rcases hk with ⟨rfl, hK⟩ | ⟨rfl, hK⟩
    · exact fin (.bool base.isNone) _ (fun w => by rw [v1]; exact run_eqGuard_slice _ _ _ _ _ _ _ _) (fun w => by rw [v1, v2]; simp [Go.binOp, he1 w]) (hK _ hbase) rfl
    · exact fin (.bool (!base.isNone)) _ (fun w => by rw [v1]; exact run_eqGuard_slice _ _ _ _ _ _ _ _) (fun w => by rw [v1, v2]; simp [Go.binOp, he1 w]) (hK _ hbase) rfl
  · rename_i hq hj
    rw [hq] at r1
    rw [hj] at r2
    have v1 : a.eval x = .slice none 0 0 := r1
    have v2 : a.eval x' = .slice none 0 0 := r2
    obtain ⟨e, hu⟩ : ∃ e, P.underlying t = some (.slice e) := by
     simp only [okBTy] at h3
     split at h3
     · exact ⟨_, by assumption⟩
     · cases h3
    have he1 : ∀ w, (Op.equal t (.slice none 0 0) (.slice none 0 0)).run P w = .ok true w := fun w => equal_slice _ _ _ _ _ hu
    rcases hk with ⟨rfl, hK⟩ | ⟨rfl, hK⟩
    · exact fin (.bool true) _ (fun w => by rw [v1]; exact run_eqGuard_slice _ _ _ _ _ _ _ _) (fun w => by rw [v1, v2]; simp [Go.binOp, he1 w]) hK rfl
    · exact fin (.bool false) _ (fun w => by rw [v1]; exact run_eqGuard_slice _ _ _ _ _ _ _ _) (fun w => by rw [v1, v2]; simp [Go.binOp, he1 w]) hK rfl
  · rename_i hq hj
    rw [hq] at r1
    rw [hj] at r2
    have v1 : a.eval x = .pointer none := r1
    have v2 : a.eval x' = .pointer none := r2
    obtain ⟨e, hu⟩ : ∃ e, P.underlying t = some (.pointer e) := by
     simp only [okBTy] at h3
     split at h3
     · exact ⟨_, by assumption⟩
     · cases h3
    have he1 : ∀ w, (Op.equal t (.pointer none) (.pointer none)).run P w = .ok true w := fun w => equal_ptr _ _ hu
    rcases hk with ⟨rfl, hK⟩ | ⟨rfl, hK⟩
    · exact fin (.bool true) _ (fun w => by rw [v1]; exact run_eqGuard_ptr _ _ _ _ _ _) (fun w => by rw [v1, v2]; simp [Go.binOp, he1 w]) hK rfl
    · exact fin (.bool false) _ (fun w => by rw [v1]; exact run_eqGuard_ptr _ _ _ _ _ _) (fun w => by rw [v1, v2]; simp [Go.binOp, he1 w]) hK rfl
  · rename_i cs ds hq hj
    rw [hq] at r1
    rw [hj] at r2
    obtain ⟨xs, v1, hx⟩ := r1
    obtain ⟨ys, v2, hy⟩ := r2
    simp only [okBTy, Bool.and_eq_true, Bool.not_eq_true'] at h3
    obtain ⟨h3, h5⟩ := h3
    obtain ⟨h7, hk⟩ := hk
    split at hk
    case h_2 => exact hk.elim
    rename_i b hb
    have hrun : ∀ w, (Op.equalIn 10000 t (.agg xs) (.agg ys)).run P w = .ok b w := fun w => key_equal h3 hx hy h7 hb w
    rcases hk with ⟨rfl, hK⟩ | ⟨rfl, hK⟩
    · exact fin (.bool b) _ (fun w => by rw [v1, v2]; exact run_eqGuard_agg w _ _ _ _ _ _ h5) (fun w => by rw [v1, v2, run_eql_struct, hrun]; rfl) (hK _ rfl) rfl
    · exact fin (.bool (!b)) _ (fun w => by rw [v1, v2]; exact run_eqGuard_agg w _ _ _ _ _ _ h5) (fun w => by rw [v1, v2, run_neq_struct, hrun]; rfl) (hK _ rfl) rfl
  · exact hk.elim
theorem py_un {op : UnOp} {y : Opd S.toTyS} (hc : chkI S P fid o.op (.un op y) = true) (g : Gam S fid X σ a w ok ρ) (hk : (IOp.un op y).vc O σ K) : PY S fid P a w ok ρ o σ K := by
 simp only [chkI] at hc
 split at hc
 case h_2 => cases hc
 case h_1 op' t x he =>
  simp only [Bool.and_eq_true, decide_eq_true_eq] at hc
  obtain ⟨rfl, h1⟩ := hc
  have r1 := okOpd_rel h1 g
  simp only [IOp.vc, vcUn] at hk
  split at hk
  · rename_i b hq
    rw [hq] at r1
    have v1 : a.eval x = .bool b := r1
    exact PY.intro (v := .bool (!b)) (by simp [execOp, he, v1, Op.unary]) hk (rfl)
  · rename_i k n hq
    rw [hq] at r1
    have v1 : a.eval x = .int k n := r1
    exact PY.intro (v := .int k (k.wrap (0 - n))) (by simp [execOp, he, v1, Op.unary, Op.intArith]) hk (rfl)
  · rename_i k n hq
    rw [hq] at r1
    have v1 : a.eval x = .int k n := r1
    exact PY.intro (by intro w; simp only [execOp, he, v1, Op.unary, Op.intBits, Sem.run_bind, Sem.run_pure, Result.andThen_ok]) hk (rfl)
  · exact hk.elim
theorem py_conv {k : IntKind} {y : Opd S.toTyS} (hc : chkI S P fid o.op (.conv k y) = true) (g : Gam S fid X σ a w ok ρ) (hk : (IOp.conv k y).vc O σ K) : PY S fid P a w ok ρ o σ K := by
 simp only [chkI] at hc
 split at hc
 case h_2 => cases hc
 case h_1 s d x he =>
  simp only [Bool.and_eq_true] at hc
  obtain ⟨⟨h1, h2⟩, h3⟩ := hc
  have r1 := okOpd_rel h1 g
  split at h3
  case h_2 => cases h3
  case h_1 k' hd =>
  simp at h3
  subst h3
  obtain ⟨ds, hs⟩ := Option.isSome_iff_exists.1 h2
  simp only [IOp.vc, chk_iff, decide_eq_true_eq] at hk
  split at hk
  · rename_i k0 n hq
    rw [hq] at r1
    have v1 : a.eval x = .int k0 n := r1
    exact PY.intro (v := .int k (k.wrap n)) (by simp [execOp, he, v1, convert, run_underlying hs, run_underlying hd, Conv.intToInt]) hk (rfl)
  · exact hk.elim
theorem okOpds_rel : ∀ {xs : List Operand} {ys : List (Opd S.toTyS)}, okOpds S.toTyS fid xs ys = true → Gam S fid X σ a w ok ρ →
 xs.length = ys.length ∧ ∀ (i : Nat) x y, xs[i]? = some x → ys[i]? = some y → okOpd S.toTyS fid x y = true
 | [], [], _, _ => ⟨rfl, fun i x y h => by simp at h⟩
 | [], _ :: _, h, _ => by simp [okOpds] at h
 | _ :: _, [], h, _ => by simp [okOpds] at h
 | x :: xs, y :: ys, h, g => by
  simp only [okOpds, Bool.and_eq_true] at h
  obtain ⟨h1, h2⟩ := okOpds_rel h.2 g
  refine ⟨by simp [h1], fun i u v hu hv => ?_⟩
  cases i with
  | zero => simp at hu hv; subst hu; subst hv; exact h.1
  | succ i => simp at hu hv; exact h2 i u v hu hv
theorem okOpds_one {xs : List Operand} {y : Opd S.toTyS} (h : okOpds S.toTyS fid xs [y] = true) : ∃ x, xs = [x] ∧ okOpd S.toTyS fid x y = true := by
 cases xs with
 | nil => simp [okOpds] at h
 | cons x xs => cases xs with
  | nil => simp [okOpds] at h; exact ⟨x, rfl, h⟩
  | cons _ _ => simp [okOpds] at h
theorem okOpds_two {xs : List Operand} {y z : Opd S.toTyS} (h : okOpds S.toTyS fid xs [y, z] = true) : ∃ x x', xs = [x, x'] ∧ okOpd S.toTyS fid x y = true ∧ okOpd S.toTyS fid x' z = true := by
 cases xs with
 | nil => simp [okOpds] at h
 | cons x xs =>
  simp only [okOpds, Bool.and_eq_true] at h
  obtain ⟨x', rfl, h2⟩ := okOpds_one h.2
  exact ⟨x, x', rfl, h.1, h2⟩
theorem py_len {st : Bool} {y : Opd S.toTyS} (hc : chkI S P fid o.op (.len st y) = true) (g : Gam S fid X σ a w ok ρ) (hk : (IOp.len st y).vc O σ K) : PY S fid P a w ok ρ o σ K := by
 simp only [chkI] at hc
 split at hc
 case h_2 => cases hc
 case h_1 xs ts he =>
  simp only [Bool.and_eq_true] at hc
  obtain ⟨h1, h2⟩ := hc
  obtain ⟨x, hx, h1'⟩ := okOpds_one h1
  have hxs : xs = #[x] := by cases xs; simp at hx; subst hx; rfl
  subst hxs
  have r1 := okOpd_rel h1' g
  split at h2
  case h_2 => cases h2
  case h_1 t ht =>
  have hts : ts = #[t] := by cases ts; simp at ht; subst ht; rfl
  subst hts
  have sl : ∀ base len cap, a.eval x = .slice base len cap → st = false → ∀ w, (execOp a.eval o).run P w = .ok (.value (.int .i64 len)) w := by
   rintro base len cap hv rfl w
   split at h2
   · rename_i e hu
     simp [execOp, he, hv, resolve, invoke, builtin, Builtin.len_, run_underlying hu, goInt]
   · cases h2
   · cases h2
  have ss : ∀ s, a.eval x = .string s → st = true → ∀ w, (execOp a.eval o).run P w = .ok (.value (.int .i64 s.size)) w := by
   rintro s hv rfl w
   split at h2
   · cases h2
   · rename_i hu
     simp [execOp, he, hv, resolve, invoke, builtin, Builtin.len_, run_underlying hu, goInt]
   · cases h2
  simp only [IOp.vc, chk_iff, decide_eq_true_eq] at hk
  split at hk
  · rename_i c xs hq
    rw [hq] at r1
    obtain ⟨base, cap, v1, hcap, hmax, hisl⟩ := IRel.isl_inv r1
    exact PY.intro (sl _ _ _ v1 rfl) (hk (by simp only [maxLen] at hmax; omega)) (rfl)
  · rename_i id off ln hq
    rw [hq] at r1
    obtain ⟨en, hen⟩ := Option.isSome_iff_exists.1 hk.1
    have hm := g.mem.live id _ hen
    have r1' : CRel S fid w ok ρ (a.eval x) (.osl id off ln) := r1
    simp only [CRel] at r1'
    cases hw : ρ id with
    | dead => rw [hw] at hm; cases en <;> exact hm.elim
    | empty =>
     rw [hw] at r1'
     obtain ⟨_, rfl, v1⟩ := r1'
     exact PY.intro (sl _ _ _ v1 rfl) (hk.2 (by omega)) (rfl)
    | blk b n s =>
     rw [hw] at r1'
     obtain ⟨base, cap, v1, h6, h7, h8⟩ := r1'
     exact PY.intro (sl _ _ _ v1 rfl) (hk.2 (by simp only [maxLen] at h7; omega)) (rfl)
  · rename_i hq
    rw [hq] at r1
    have v1 : a.eval x = .slice none 0 0 := r1
    exact PY.intro (sl _ _ _ v1 rfl) hk (rfl)
  · rename_i s hq
    rw [hq] at r1
    have v1 : a.eval x = .string s := r1
    exact PY.intro (ss _ v1 rfl) hk (rfl)
  · exact hk.elim
theorem vcMin_run (mxx : Bool) : ∀ (ds : List (D S.toTyS)) (vs : List Value) (d : D S.toTyS) (v : Value) {K' : C S.toTyS → Prop}, vs.length = ds.length → (∀ (i : Nat) u e, vs[i]? = some u → ds[i]? = some e → DRel S fid w ok ρ u e) →
 DRel S fid w ok ρ v d → vcMin mxx d ds K' → ∃ r c, (∀ w, (vs.foldlM (if mxx then Builtin.max2 else Builtin.min2) v).run P w = .ok r w) ∧ K' c ∧ CRel S fid w ok ρ r c
 | [], vs, d, v, K', hl, _, hv, h => by
  have : vs = [] := by simpa using hl
  subst this
  cases d with
  | c x =>
   cases x with
   | int k n => exact ⟨v, _, by simp, h, hv⟩
   | _ => exact h.elim
  | _ => exact h.elim
 | e :: ds, [], d, v, K', hl, _, _, _ => by simp at hl
 | e :: ds, u :: vs, d, v, K', hl, hr, hv, h => by
  cases d with
  | c x =>
   cases x with
   | int k n =>
    cases e with
    | c y =>
     cases y with
     | int k' m =>
      have hu : u = .int k' m := hr 0 u _ rfl rfl
      have hv' : v = .int k n := hv
      subst hu; subst hv'
      obtain ⟨r, c, h1, h2, h3⟩ := vcMin_run mxx ds vs (.c (.int k (if mxx then (if m > n then m else n) else (if m < n then m else n)))) (.int k (if mxx then (if m > n then m else n) else (if m < n then m else n))) (by simpa using hl) (fun i u e hu he => hr (i + 1) u e (by simpa using hu) (by simpa using he)) (K' := K') rfl h
      refine ⟨r, c, fun w => ?_, h2, h3⟩
      have h1 := h1 w
      simp only [List.foldlM_cons, Sem.run_bind]
      cases mxx <;> simp [Builtin.min2, Builtin.max2] at h1 ⊢ <;> exact h1
     | _ => exact h.elim
    | _ => exact h.elim
   | _ => exact h.elim
  | _ => exact h.elim
theorem okOpds_map {xs : List Operand} {ys : List (Opd S.toTyS)} (h : okOpds S.toTyS fid xs ys = true) (g : Gam S fid X σ a w ok ρ) :
 (xs.map a.eval).length = (ys.map σ.ev).length ∧ ∀ (i : Nat) u e, (xs.map a.eval)[i]? = some u → (ys.map σ.ev)[i]? = some e → DRel S fid w ok ρ u e := by
 obtain ⟨h1, h2⟩ := okOpds_rel h g
 refine ⟨by simp [h1], fun i u e hu he => ?_⟩
 simp only [List.getElem?_map, Option.map_eq_some_iff] at hu he
 obtain ⟨x, hx, rfl⟩ := hu
 obtain ⟨y, hy, rfl⟩ := he
 exact okOpd_rel (h2 i x y hx hy) g
theorem py_mn {ys : List (Opd S.toTyS)} (hc : chkI S P fid o.op (.mn ys) = true) (g : Gam S fid X σ a w ok ρ) (hk : (IOp.mn ys).vc O σ K) : PY S fid P a w ok ρ o σ K := by
 simp only [chkI] at hc
 split at hc
 case h_2 => cases hc
 case h_1 xs ts he =>
  obtain ⟨hl, hr⟩ := okOpds_map hc g
  simp only [IOp.vc, chk_iff, decide_eq_true_eq] at hk
  split at hk
  case h_2 => exact hk.elim
  rename_i d ds hds
  cases hxs : xs.toList.map a.eval with
  | nil => rw [hxs, hds] at hl; simp at hl
  | cons v vs =>
   rw [hxs, hds] at hl hr
   obtain ⟨r, c, h1, h2, h3⟩ := vcMin_run (P := P) false ds vs d v (K' := fun r => K (.c r) σ) (by simpa using hl) (fun i u e hu he => hr (i + 1) u e (by simpa using hu) (by simpa using he)) (hr 0 v d rfl rfl) hk
   refine PY.intro (v := r) ?_ h2 (h3)
   have e1 : (xs.map a.eval).toList = v :: vs := by simpa using hxs
   simp only [if_neg, Bool.false_eq_true, if_false] at h1
   simp [execOp, he, resolve, invoke, builtin, Builtin.min_, e1, hxs, h1]
theorem py_mx {ys : List (Opd S.toTyS)} (hc : chkI S P fid o.op (.mx ys) = true) (g : Gam S fid X σ a w ok ρ) (hk : (IOp.mx ys).vc O σ K) : PY S fid P a w ok ρ o σ K := by
 simp only [chkI] at hc
 split at hc
 case h_2 => cases hc
 case h_1 xs ts he =>
  obtain ⟨hl, hr⟩ := okOpds_map hc g
  simp only [IOp.vc, chk_iff, decide_eq_true_eq] at hk
  split at hk
  case h_2 => exact hk.elim
  rename_i d ds hds
  cases hxs : xs.toList.map a.eval with
  | nil => rw [hxs, hds] at hl; simp at hl
  | cons v vs =>
   rw [hxs, hds] at hl hr
   obtain ⟨r, c, h1, h2, h3⟩ := vcMin_run (P := P) true ds vs d v (K' := fun r => K (.c r) σ) (by simpa using hl) (fun i u e hu he => hr (i + 1) u e (by simpa using hu) (by simpa using he)) (hr 0 v d rfl rfl) hk
   refine PY.intro (v := r) ?_ h2 (h3)
   have e1 : (xs.map a.eval).toList = v :: vs := by simpa using hxs
   simp only [if_true] at h1
   simp [execOp, he, resolve, invoke, builtin, Builtin.max_, e1, hxs, h1]
theorem capIds_spec : ∀ {ds : List (D S.toTyS)} {l : List Id}, capIds ds = some l → ds = l.map (fun i => .c (.ptr i 0 0))
 | [], l, h => by simp [capIds] at h; subst h; rfl
 | .c (.ptr id 0 0) :: rest, l, h => by
  simp only [capIds, Option.map_eq_some_iff] at h
  obtain ⟨l', h1, rfl⟩ := h
  rw [capIds_spec h1]; rfl
 | .any :: _, l, h => by simp [capIds] at h
 | .agg _ :: _, l, h => by simp [capIds] at h
 | .tup _ :: _, l, h => by simp [capIds] at h
 | .c x :: rest, l, h => by
  cases x with
  | ptr id e o =>
   cases e with
   | zero => cases o with
    | zero =>
     simp only [capIds, Option.map_eq_some_iff] at h
     obtain ⟨l', h1, rfl⟩ := h
     rw [capIds_spec h1]; rfl
    | succ _ => simp [capIds] at h
   | succ _ => simp [capIds] at h
  | _ => simp [capIds] at h
theorem py_mkf {f : Nat} {caps : List (Opd S.toTyS)} (hc : chkI S P fid o.op (.mkf f caps) = true) (g : Gam S fid X σ a w ok ρ) (hk : (IOp.mkf f caps).vc O σ K) : PY S fid P a w ok ρ o σ K := by
 simp only [chkI] at hc
 split at hc
 case h_2 => cases hc
 case h_1 f' first cs he =>
  simp only [Bool.and_eq_true, decide_eq_true_eq] at hc
  obtain ⟨⟨rfl, h1⟩, h2⟩ := hc
  have hfirst : first = #[] := by simpa using h1
  subst hfirst
  obtain ⟨hl, hr⟩ := okOpds_map h2 g
  simp only [IOp.vc, chk_iff, decide_eq_true_eq] at hk
  split at hk
  case h_2 => exact hk.elim
  rename_i l hcap
  obtain ⟨hlive, hK⟩ := hk
  have hds := capIds_spec hcap
  refine PY.intro (v := .func (.func (fid f)) #[] (cs.map a.eval)) (by simp [execOp, he, Instr.makeFunc]) hK (⟨_, rfl, ?_, ?_⟩)
  · rw [hds] at hl; simpa using hl
  · intro i id b n sz hi hb
    have hlen : i < l.length := (List.getElem?_eq_some_iff.1 hi).1
    have hlt : i < cs.size := by rw [hds] at hl; simp at hl; omega
    have h3 := hr i (a.eval cs[i]) (.c (.ptr id 0 0)) (by simp [hlt]) (by rw [hds]; simp [hi])
    have h4 : CRel S fid w ok ρ (a.eval cs[i]) (.ptr id 0 0) := h3
    simp only [CRel, hb] at h4
    simp [hlt, h4]
end Go.Clap
