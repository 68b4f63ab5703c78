/- The checks of the small code against the loaded functions. -/
import Derived.Test.YtnjgakngmbbmfaaGreatDoorClapSound7
import Derived.ChangeKeysEq
import Derived.MapKept
set_option linter.unusedVariables false
set_option linter.unusedSimpArgs false
namespace Go.Clap
variable {S : Sig} {fid : Nat → FuncId} {P : Program} {X : Ctx S} {σ : St S.toTyS} {a : Act} {w : World} {ok : Nat → Prop} {ρ : Id → Where}
variable {o : Oper} {next : Act → World → Prop} {Q : Exit → Act → World → Prop} {K : D S.toTyS → St S.toTyS → Prop} {T : Id → Prop} {O : Oracle S.toTyS}
theorem int_lrel {cs : List (C S.toTyS)} (h : intCells cs = true) : LRel S fid w ok ρ (cs.map cV) cs := by
 refine ⟨by simp, fun i v d hv hd => ?_⟩
 rw [List.getElem?_map, hd] at hv
 have h1 := List.all_eq_true.1 h d (List.mem_of_getElem? hd)
 cases hv
 cases d <;> first | rfl | cases h1
theorem int_eq {cs : List (C S.toTyS)} {vs : List Value} (hc : intCells cs = true) (h : LRel S fid w ok ρ vs cs) : vs = cs.map cV := by
 apply List.ext_getElem?
 intro i
 have hl := h.1
 rcases Nat.lt_or_ge i cs.length with hi | hi
 · have hr := h.2 i _ _ (List.getElem?_eq_getElem (by omega)) (List.getElem?_eq_getElem hi)
   rw [List.getElem?_eq_getElem (by omega), List.getElem?_map, List.getElem?_eq_getElem hi]
   have hm : cs[i].isInt = true := List.all_eq_true.1 hc _ (List.getElem_mem hi)
   simp only [Option.map_some, Option.some.injEq]
   cases hci : cs[i] with
   | int k n => rw [hci] at hr; exact hr
   | _ => rw [hci] at hm; cases hm
 · rw [List.getElem?_eq_none (by omega), List.getElem?_eq_none (by simpa using hi)]
theorem key_check {n : Nat} {t : TypeId} (hk : okKey P n t = true) {xs : Array Value} (hl : xs.size = n) (em : Bool) (w' : World) : (Instr.checkKey em 10000 t (.agg xs)).run P w' = .ok () w' := by
 have hone : ∀ {e : TypeId} {v : Value}, (match P.underlying e with | some (.int _) => true | _ => false) = true → ∀ w', (Instr.checkKey em 9999 e v).run P w' = .ok () w' := by
  intro e v h w'
  split at h
  · rename_i kk hu
    show (Instr.checkKey em (9998 + 1) e v).run P w' = _
    rw [Instr.checkKey]
    simp only [Sem.run_bind, run_underlying hu, Result.andThen_ok]
    cases v <;> simp
  · cases h
 unfold okKey at hk
 split at hk
 · rename_i fs hu
   simp only [Bool.and_eq_true, decide_eq_true_eq, Bool.not_eq_true'] at hk
   obtain ⟨⟨h1, h2⟩, h3⟩ := hk
   show (Instr.checkKey em (9999 + 1) t _).run P w' = _
   rw [Instr.checkKey]
   simp only [Sem.run_bind, run_underlying hu, Result.andThen_ok]
   rw [← Array.forIn_toList]
   have each : ∀ (l : List Field) (i : Nat), okPlain P i l = true → i + l.length = n → ∀ w', (forIn l PUnit.unit fun f (_ : PUnit) => (do
    if f.name ≠ "_" then Instr.checkKey em 9999 f.type (← part f.type xs f.offset)
    pure (ForInStep.yield PUnit.unit) : Sem (ForInStep PUnit))).run P w' = .ok PUnit.unit w' := by
    intro l
    induction l with
    | nil => intro i _ _ w'; simp
    | cons f l ih =>
     intro i hp hlen w'
     simp only [okPlain, Bool.and_eq_true, decide_eq_true_eq] at hp
     obtain ⟨⟨⟨h4, h5⟩, h6⟩, h7⟩ := hp
     simp only [List.length_cons] at hlen
     have hi : i < xs.size := by omega
     have p1 := part_plain (P := P) (w := w') h6 (show xs[f.offset]? = some xs[i] by rw [h4]; exact Array.getElem?_eq_getElem hi)
     simp only [List.forIn_cons, Sem.run_bind, if_pos h5, p1, Result.andThen_ok, hone h6, Sem.run_pure]
     exact ih (i + 1) h7 (by omega) w'
   have := each fs.toList 0 h1 (by omega) w'
   simp at this ⊢
   rw [this]
   rfl
 · rename_i m e hu
   simp only [Bool.and_eq_true, decide_eq_true_eq] at hk
   obtain ⟨⟨rfl, h2⟩, h3⟩ := hk
   show (Instr.checkKey em (9999 + 1) t _).run P w' = _
   rw [Instr.checkKey]
   simp only [Sem.run_bind, run_underlying hu, Result.andThen_ok]
   simp only [Std.Legacy.Range.forIn_eq_forIn_range', Std.Legacy.Range.size, Nat.sub_zero, Nat.add_one_sub_one, Nat.div_one]
   have hsz := fun w' => run_sizeOf_of (w := w') h2
   have each : ∀ (k i : Nat), i + k ≤ xs.size → ∀ w', (forIn (List.range' i k) PUnit.unit fun i (_ : PUnit) => (do
    let n ← sizeOf e
    let v ← part e xs (i * n)
    Instr.checkKey em 9999 e v
    pure (ForInStep.yield PUnit.unit) : Sem (ForInStep PUnit))).run P w' = .ok PUnit.unit w' := by
    intro k
    induction k with
    | zero => intro i _ w'; simp
    | succ k ih =>
     intro i hlen w'
     have hi : i < xs.size := by omega
     have p1 := part_plain (P := P) (w := w') h3 (Array.getElem?_eq_getElem hi)
     simp only [List.range'_succ, List.forIn_cons, Sem.run_bind, hsz, Nat.mul_one, p1, Result.andThen_ok, hone h3, Sem.run_pure]
     exact ih (i + 1) (by omega) w'
   have := each m 0 (by omega) w'
   simp at this ⊢
   rw [this]
   rfl
 · cases hk
theorem key_asking {n : Nat} {t : TypeId} (hk : okKey P n t = true) {kc vc : S.Ty} (hn : S.sz kc = n) {u : S.U kc} (hiu : intCells (S.row kc u) = true) :
 ∀ (l : List (S.U kc × S.U vc)) (es : List MapEntry) (j : Nat) (f : Option (S.U vc)), es.length = l.length →
  (∀ (i : Nat) (p : S.U kc × S.U vc), l[i]? = some p → intCells (S.row kc p.1) = true ∧ ∃ e, es[i]? = some e ∧ e.key = keyV S kc p.1) → mfind S kc vc l u = some f → ∀ w',
  ∃ r, (Instr.findAsking t (keyV S kc u) es j).run P w' = .ok r w' ∧ match f with
   | none => r = none
   | some v => ∃ i p e, l[i]? = some p ∧ es[i]? = some e ∧ p.2 = v ∧ r = some (j + i, e.val)
 | [], [], j, f, _, _, hf, w' => by
  simp [mfind] at hf
  subst hf
  exact ⟨none, by simp [Instr.findAsking], rfl⟩
 | [], _ :: _, _, _, hl, _, _, _ => by simp at hl
 | _ :: _, [], _, _, hl, _, _, _ => by simp at hl
 | (x, v) :: l, e :: es, j, f, hl, hr, hf, w' => by
  obtain ⟨hix, e', he, hkey⟩ := hr 0 (x, v) rfl
  simp at he
  subst he
  simp only [mfind] at hf
  have eqn : ∀ b, eqCells (S.row kc u) (S.row kc x) = some b → (Op.equal t (keyV S kc u) e.key).run P w' = .ok b w' := fun b hb => by
   rw [hkey]
   exact key_equal (S := S) (fid := fun _ => 0) (w := default) (ok := fun _ => True) (ρ := fun _ => .dead) hk (by simpa [keyV] using int_lrel hiu) (by simpa [keyV] using int_lrel hix) (by rw [S.row_len]; exact hn) hb w'
  split at hf
  · rename_i hb
    cases hf
    refine ⟨some (j, e.val), ?_, 0, (x, v), e, rfl, rfl, rfl, by simp⟩
    simp only [Instr.findAsking, Sem.run_bind, eqn _ hb, Result.andThen_ok, if_true, Sem.run_pure]
  · rename_i hb
    obtain ⟨r, h1, h2⟩ := key_asking hk hn hiu l es (j + 1) f (by simpa using hl) (fun i p hp => by
     obtain ⟨h4, e', h5, h6⟩ := hr (i + 1) p (by simpa using hp)
     exact ⟨h4, e', by simpa using h5, h6⟩) hf w'
    refine ⟨r, ?_, ?_⟩
    · simp only [Instr.findAsking, Sem.run_bind, eqn _ hb, Result.andThen_ok, Bool.false_eq_true, if_false, h1]
    · cases f with
      | none => exact h2
      | some v' =>
       obtain ⟨i, p, e', h3, h4, h5, h6⟩ := h2
       exact ⟨i + 1, p, e', by simpa using h3, by simpa using h4, h5, by rw [h6]; congr 2; omega⟩
  · cases hf
theorem findNow_agg {kd : TypeDesc} {xs : Array Value} : ∀ (es : List MapEntry), es ≠ [] → Instr.findNow kd (.agg xs) es 0 = none
 | [], h => absurd rfl h
 | e :: es, _ => by
  simp only [Instr.findNow]
  have : Instr.sameNow kd (.agg xs) e.key = none := by
   unfold Instr.sameNow
   split <;> simp_all
  rw [this]
theorem key_find {n : Nat} {t : TypeId} (hk : okKey P n t = true) {kc vc : S.Ty} (hn : S.sz kc = n) {u : S.U kc} (hiu : intCells (S.row kc u) = true) (l : List (S.U kc × S.U vc)) (es : Array MapEntry) (f : Option (S.U vc)) (hl : es.size = l.length)
 (hr : ∀ (i : Nat) (p : S.U kc × S.U vc), l[i]? = some p → intCells (S.row kc p.1) = true ∧ ∃ e, es[i]? = some e ∧ e.key = keyV S kc p.1) (hf : mfind S kc vc l u = some f) (w' : World) :
 ∃ r, (Instr.findKey t (keyV S kc u) es.toList).run P w' = .ok r w' ∧ match f with
  | none => r = none
  | some v => ∃ i p e, l[i]? = some p ∧ es[i]? = some e ∧ p.2 = v ∧ r = some (i, e.val) := by
 obtain ⟨kd, hu⟩ : ∃ kd, P.underlying t = some kd := by
  unfold okKey at hk
  split at hk
  · exact ⟨_, by assumption⟩
  · exact ⟨_, by assumption⟩
  · cases hk
 obtain ⟨r, h1, h2⟩ := key_asking hk hn hiu l es.toList 0 f (by simpa using hl) (fun i p hp => by
  obtain ⟨h3, e, h4, h5⟩ := hr i p hp
  exact ⟨h3, e, by simpa using h4, h5⟩) hf w'
 refine ⟨r, ?_, ?_⟩
 · by_cases hne : es.toList = []
   · have hl0 : l = [] := by
      have : es.size = 0 := by simpa using congrArg List.length hne
      exact List.length_eq_zero_iff.1 (by omega)
     subst hl0
     simp [mfind] at hf
     subst hf
     subst h2
     simp only [Instr.findKey, Sem.run_bind, run_underlying hu, Result.andThen_ok, hne, Instr.findNow, Sem.run_pure]
   · simp only [Instr.findKey, Sem.run_bind, run_underlying hu, Result.andThen_ok, keyV, findNow_agg _ hne]
     exact h1
 · cases f with
   | none => exact h2
   | some v =>
    obtain ⟨i, p, e, h3, h4, h5, h6⟩ := h2
    exact ⟨i, p, e, h3, by simpa using h4, h5, by rw [h6, Nat.zero_add]⟩
theorem equalIn_nil (d : Nat) (t : TypeId) {ms} (v : Value) (b : Bool) (hv : (b = true ∧ v = Value.nilIface) ∨ (b = false ∧ ∃ t u, v = Value.iface t u)) (h : P.underlying t = some (.interface ms)) :
 (Op.equalIn (d + 1) t v .nilIface).run P w = .ok b w := by
 rcases hv with ⟨rfl, rfl⟩ | ⟨rfl, t', u, rfl⟩ <;> simp [Op.equalIn, run_underlying h]
theorem py_isnil {ne : Bool} {y : Opd S.toTyS} (hc : chkI S P fid o.op (.isnil ne y) = true) (g : Gam S fid X σ a w ok ρ) (hk : (IOp.isnil ne y).vc O σ K) : PY S fid P a w ok ρ o σ K := by
 simp only [chkI] at hc
 split at hc
 case h_2 => cases hc
 case h_1 op t x yt he =>
  simp only [Bool.and_eq_true, decide_eq_true_eq] at hc
  obtain ⟨⟨h1, h2⟩, h3⟩ := hc
  have r1 := okOpd_rel h2 g
  obtain ⟨ms, hu⟩ : ∃ ms, P.underlying t = some (.interface ms) := by
   split at h3
   · exact ⟨_, by assumption⟩
   · cases h3
  have hev : a.eval (.const .nilIface) = .nilIface := rfl
  have fin : ∀ b, ((b = true ∧ a.eval x = Value.nilIface) ∨ (b = false ∧ ∃ t u, a.eval x = Value.iface t u)) → (∀ t, t = (bne b ne) → K (.c (.bool t)) σ) → PY S fid P a w ok ρ o σ K := by
   intro b hv hk
   have he1 : ∀ w, (Op.equal t (a.eval x) .nilIface).run P w = .ok b w := fun w => equalIn_nil 9999 t _ b hv hu
   have hg : ∀ w, (eqGuard op t x (.const .nilIface) (a.eval x) .nilIface).run P w = .ok () w := fun w => by
    rcases hv with ⟨_, e⟩ | ⟨_, t', u, e⟩ <;> rw [e] <;> unfold eqGuard <;> simp <;> split <;> rfl
   have hx : ∀ w, (Go.binOp op t (a.eval x) .nilIface).run P w = .ok (.bool (bne b ne)) w := fun w => by
    rcases hv with ⟨e0, e⟩ | ⟨e0, t', u, e⟩ <;> rw [e, e0] at he1 <;> rw [e, h1, e0] <;> cases ne <;> simp [Go.binOp, he1]
   exact PY.intro (v := .bool (bne b ne)) (fun w => by simp [execOp, he, hev, hg, hx]) (hk _ rfl) rfl
  simp only [IOp.vc] at hk
  split at hk
  · rename_i b hq
    rw [hq] at r1
    exact fin b r1 hk
  · rename_i o' hq
    rw [hq] at r1
    refine fin o'.isNone ?_ hk
    rcases r1 with ⟨rfl, h⟩ | ⟨n, rfl, h⟩
    · exact .inl ⟨rfl, h⟩
    · exact .inr ⟨rfl, _, _, h⟩
  · exact hk.elim
theorem equalIn_ife (d : Nat) (t : TypeId) {ms} (o : Option Int) (v : Value) (n : Int) {q : IntKind} (hv : (o = none ∧ v = Value.nilIface) ∨ ∃ n, o = some n ∧ v = Value.iface S.errT (.int .i64 n)) (h : P.underlying t = some (.interface ms))
 (hc : (P.info? S.errT).map (·.comparable) = some true) (hx : P.underlying S.errT = some (.int q)) :
 (Op.equalIn (d + 2) t v (.iface S.errT (.int .i64 n))).run P w = .ok (o == some n) w := by
 cases hi : P.info? S.errT with
 | none => simp [hi] at hc
 | some i =>
  have hcc : i.comparable = true := by simpa [hi] using hc
  rcases hv with ⟨rfl, rfl⟩ | ⟨m, rfl, rfl⟩
  · simp [Op.equalIn, run_underlying h]
  · simp [Op.equalIn, run_underlying h, run_underlying hx, typeInfo, hi, hcc]
theorem py_eqe {ne : Bool} {y z : Opd S.toTyS} (hc : chkI S P fid o.op (.eqe ne y z) = true) (g : Gam S fid X σ a w ok ρ) (hk : (IOp.eqe ne y z).vc O σ K) : PY S fid P a w ok ρ o σ K := by
 simp only [chkI] at hc
 split at hc
 case h_2 => cases hc
 case h_1 op t x x' yt he =>
  simp only [Bool.and_eq_true, decide_eq_true_eq] at hc
  obtain ⟨⟨⟨⟨⟨h1, h2⟩, h3⟩, h4⟩, h5⟩, h6⟩ := hc
  have r1 := okOpd_rel h2 g
  have r2 := okOpd_rel h3 g
  obtain ⟨ms, hu⟩ : ∃ ms, P.underlying t = some (.interface ms) := by
   split at h4
   · exact ⟨_, by assumption⟩
   · cases h4
  obtain ⟨q, hq0⟩ : ∃ q, P.underlying S.errT = some (.int q) := by
   split at h5
   · exact ⟨_, by assumption⟩
   · cases h5
  simp only [IOp.vc] at hk
  split at hk
  case h_2 => exact hk.elim
  rename_i o' n hq hj
  rw [hq] at r1
  rw [hj] at r2
  have v2 : a.eval x' = Value.iface S.errT (.int .i64 n) := by
   rcases r2 with ⟨h, _⟩ | ⟨m, h, h'⟩
   · cases h
   · cases h; exact h'
  have he1 : ∀ w, (Op.equal t (a.eval x) (.iface S.errT (.int .i64 n))).run P w = .ok (o' == some n) w := fun w => equalIn_ife 9998 t o' _ n r1 hu h6 hq0
  have hg : ∀ w, (eqGuard op t x x' (a.eval x) (.iface S.errT (.int .i64 n))).run P w = .ok () w := fun w => by
   rcases r1 with ⟨_, e⟩ | ⟨m, _, e⟩ <;> rw [e] <;> unfold eqGuard <;> simp <;> split <;> rfl
  have hx : ∀ w, (Go.binOp op t (a.eval x) (.iface S.errT (.int .i64 n))).run P w = .ok (.bool (bne (o' == some n) ne)) w := fun w => by
   rcases r1 with ⟨e0, e⟩ | ⟨m, e0, e⟩ <;> rw [e, e0] at he1 <;> rw [e, h1, e0] <;> cases ne <;> simp [Go.binOp, he1]
  exact PY.intro (v := .bool (bne (o' == some n) ne)) (fun w => by simp [execOp, he, v2, hg, hx]) (hk _ rfl) rfl
theorem py_mke {y : Opd S.toTyS} (hc : chkI S P fid o.op (.mke y) = true) (g : Gam S fid X σ a w ok ρ) (hk : (IOp.mke y).vc O σ K) : PY S fid P a w ok ρ o σ K := by
 simp only [chkI] at hc
 split at hc
 case h_2 => cases hc
 case h_1 t x he =>
  simp only [Bool.and_eq_true, decide_eq_true_eq] at hc
  obtain ⟨⟨h1, h2⟩, h3⟩ := hc
  have r1 := okOpd_rel h1 g
  obtain ⟨q, hu⟩ : ∃ q, P.underlying t = some (.int q) := by
   split at h3
   · exact ⟨_, by assumption⟩
   · cases h3
  simp only [IOp.vc] at hk
  split at hk
  case h_2 => exact hk.elim
  rename_i n hq
  rw [hq] at r1
  have v1 : a.eval x = .int .i64 n := r1
  refine PY.intro (v := .iface t (.int .i64 n)) (d := .c (.ife (some n))) (fun w => ?_) hk (.inr ⟨n, rfl, by rw [h2]⟩)
  have : (Instr.makeInterface t (.int .i64 n)).run P w = .ok (.iface t (.int .i64 n)) w := by
   unfold Instr.makeInterface
   simp only [Sem.run_bind, run_underlying hu, Result.andThen_ok]
   rfl
  simp [execOp, he, v1, this]
theorem py_mki (hc : chkI S P fid o.op (.mki : IOp S.toTyS) = true) (g : Gam S fid X σ a w ok ρ) (hk : (IOp.mki : IOp S.toTyS).vc O σ K) : PY S fid P a w ok ρ o σ K := by
 simp only [chkI] at hc
 split at hc
 case h_2 => cases hc
 case h_1 t x he =>
  split at hc
  · cases hc
  · rename_i u hne hu
    refine PY.intro (v := .iface t (a.eval x)) (d := .c (.ifc false)) (fun w => ?_) hk (.inr ⟨rfl, t, _, rfl⟩)
    have : (Instr.makeInterface t (a.eval x)).run P w = .ok (.iface t (a.eval x)) w := by
     unfold Instr.makeInterface
     simp only [Sem.run_bind, run_underlying hu, Result.andThen_ok]
     rfl
    simp [execOp, he, this]
  · cases hc
theorem snd_ldg {b : Nat} (hc : chkI S P fid o.op (.ldg b : IOp S.toTyS) = true) (g : Gam S fid X σ a w ok ρ) (hk : (IOp.ldg b : IOp S.toTyS).vc O σ K) (hn : Owes S fid X a o next K w ok ρ T) : o.wp P a w next Q := by
 simp only [chkI] at hc
 split at hc
 case h_2 => cases hc
 case h_1 t b' he =>
  simp only [Bool.and_eq_true, decide_eq_true_eq] at hc
  obtain ⟨⟨⟨rfl, h1⟩, h2⟩, h3⟩ := hc
  obtain ⟨hg1, hg2⟩ := S.gok1 b (by simpa using h1)
  obtain ⟨_, _, arr, tt, fr, hh, hq⟩ := g.gl b hg1
  obtain ⟨u, hu0, ho⟩ := hg2 arr hq
  have hu : w.cell? ⟨b, 0, none⟩ = some u := by simp [World.cell?, hh, hu0]
  obtain ⟨v, hr, hd⟩ := load_gen (S := S) (fid := fid) (P := P) (w := w) (ok := ok) (ρ := ρ) (b := b) (off := 0) (cs := [C.any]) h2 h3 rfl rfl (fun j d hd => by
   cases j with
   | zero => simp at hd; subst hd; exact ⟨u, hu, ho⟩
   | succ j => simp at hd)
  have hev : a.eval (.global b) = .pointer (some ⟨b, 0, none⟩) := rfl
  exact wp_value (by simp [execOp, he, hev, Instr.loadAt, Instr.sureAddr, hr w rfl]) (hn _ _ _ _ _ _ hk g hd (.refl _ _ _ _))
theorem snd_mkmap {k : Nat} {kc vc : S.Ty} (hc : chkI S P fid o.op (.mkmap k kc vc) = true) (g : Gam S fid X σ a w ok ρ) (hk : (IOp.mkmap k kc vc).vc O σ K) (hn : Owes S fid X a o next K w ok ρ T) : o.wp P a w next Q := by
 simp only [chkI] at hc
 split at hc
 case h_2 => cases hc
 case h_1 t he =>
  obtain ⟨hf, hK⟩ := chk_iff.1 hk
  have g' : Gam S fid X (σ.put (.s k) (some (.map kc vc []))) a (w.alloc (.map #[] 0)) ok (updW ρ (.s k) (.blk w.heap.size 0 0)) :=
   g.newObj (ob := .map #[] 0) (nn := 0) (sz := 0) (by intro j h; cases h) hf rfl ⟨#[], 0, heap_alloc_new w _, rfl, fun i p hp => by simp at hp⟩
  have hd : DRel S fid (w.alloc (.map #[] 0)) ok (updW ρ (.s k) (.blk w.heap.size 0 0)) (.map (some w.heap.size)) (.c (.mapp (.s k))) := by
   simp [DRel, DRel1, CRel, updW_same]
  exact wp_value (by simp only [execOp, he, Instr.makeMap, Option.map_none, Sem.run_bind, run_newObj, Result.andThen_ok, Sem.run_pure]; rfl) (hn _ _ _ _ _ _ hK g' hd (.alloc _ _ _ _ (g.mem.gone _ (St.fresh_none hf))))
theorem map_cells (g : Gam S fid X σ a w ok ρ) {id : Id} {kc vc : S.Ty} {l : List (S.U kc × S.U vc)} (hid : σ.ent id = some (.map kc vc l)) {v : Value} (hv : CRel S fid w ok ρ v (.mapp id)) :
 ∃ b n s es ck, ρ id = .blk b n s ∧ v = .map (some b) ∧ w.heap[b]? = some (.map es ck) ∧ es.size = l.length ∧
  ∀ (i : Nat) (p : S.U kc × S.U vc), l[i]? = some p → intCells (S.row kc p.1) = true ∧ ∃ e, es[i]? = some e ∧ e.key = keyV S kc p.1 ∧ ∀ d, (S.row vc p.2)[0]? = some d → IRel S w ok e.val d := by
 have hm := g.mem.live id _ hid
 simp only [CRel] at hv
 cases hw : ρ id with
 | dead => rw [hw] at hm; exact hm.elim
 | empty => rw [hw] at hm; exact hm.elim
 | blk b n s =>
  rw [hw] at hm hv
  obtain ⟨es, ck, h1, h2, h3⟩ := hm
  exact ⟨b, n, s, es, ck, rfl, hv, h1, h2, h3⟩
theorem key_val {y : Opd S.toTyS} {i : Operand} (h1 : okOpd S.toTyS fid i y = true) (g : Gam S fid X σ a w ok ρ) {ks : List (C S.toTyS)} (hks : σ.ev y = .agg ks) (hi : intCells ks = true) {kc : S.Ty} {u : S.U kc} (hu : S.row kc u = ks) :
 a.eval i = keyV S kc u := by
 have r1 := okOpd_rel h1 g
 rw [hks] at r1
 obtain ⟨arr, harr, h2⟩ := r1
 have h3 := int_eq hi h2
 rw [harr, keyV, hu, ← h3]
theorem snd_mapget {n : Nat} {y z : Opd S.toTyS} {zero : C S.toTyS} {cok : Bool} (hc : chkI S P fid o.op (.mapget n y z zero cok) = true) (g : Gam S fid X σ a w ok ρ) (hk : (IOp.mapget n y z zero cok).vc O σ K) (hn : Owes S fid X a o next K w ok ρ T) : o.wp P a w next Q := by
 simp only [chkI] at hc
 split at hc
 case h_2 => cases hc
 case h_1 t x i ok' he =>
  simp only [Bool.and_eq_true, decide_eq_true_eq] at hc
  obtain ⟨⟨⟨h1, h2⟩, rfl⟩, h3⟩ := hc
  split at h3
  case h_2 => cases h3
  rename_i key elem hu
  simp only [Bool.and_eq_true] at h3
  obtain ⟨⟨hkey, hz0⟩, hz1⟩ := h3
  have r1 := okOpd_rel h1 g
  simp only [IOp.vc, chk_iff, Bool.and_eq_true, decide_eq_true_eq] at hk
  split at hk
  case h_2 => exact hk.elim
  rename_i id hq
  rw [hq] at r1
  split at hk
  case h_2 => exact hk.elim
  rename_i kc vc l hid
  split at hk
  case h_2 => exact hk.elim
  rename_i ks hks
  obtain ⟨⟨⟨hs1, hs2⟩, hint⟩, u, f, hu1, hf, hK⟩ := hk
  obtain ⟨b, nn, s, es, ck, hρ, hv, hh, hsz, hr⟩ := map_cells g hid r1
  have hkv := key_val h2 g hks hint hu1
  have hiu : intCells (S.row kc u) = true := by rw [hu1]; exact hint
  obtain ⟨zz, hzr, hzo, hzi⟩ := okZero_spec (w := w) hz0
  obtain ⟨r, hfind, hres⟩ := key_find hkey hs2 hiu l es f hsz (fun i p hp => by obtain ⟨q1, e, q2, q3, _⟩ := hr i p hp; exact ⟨q1, e, q2, q3⟩) hf w
  have hck := key_check (P := P) hkey (xs := ((S.row kc u).map cV).toArray) (by simp [S.row_len, hs2]) es.isEmpty w
  have zone : zz.oneCell' = true := by
   simp only [Option.bind_eq_some_iff] at hzi
   obtain ⟨ti, hti, htz⟩ := hzi
   rw [hti] at hz1
   simp only [htz] at hz1
   exact hz1
  have hzrel : CRel S fid w ok ρ zz zero := by
   obtain ⟨hl, _⟩ := okConsts_rel (fid := fid) (w := w) (ok := ok) (ρ := ρ) hzo
   have hcell : zz.cells = #[zz] := by cases zz <;> simp_all [Value.cells, Value.oneCell']
   rw [hcell] at hl
   exact hl.2 0 zz zero rfl rfl
  have fin : ∀ (v : Value) (d : C S.toTyS) (isf : Bool), CRel S fid w ok ρ v d → (cok = true → K (.tup [.c d, .c (.bool isf)]) σ) → (cok = false → K (.c d) σ) →
   (Instr.lookup t (.map (some b)) (keyV S kc u) cok).run P w = .ok (if cok then .tuple #[v, .bool isf] else v) w → o.wp P a w next Q := by
   intro v d isf hvd hK1 hK2 hrun
   cases cok with
   | true =>
    refine wp_value (v := .tuple #[v, .bool isf]) (by simp only [execOp, he, hv, hkv, Sem.run_bind, hrun, Result.andThen_ok, Sem.run_pure]; rfl) (hn _ _ _ _ _ _ (hK1 rfl) g ⟨#[v, .bool isf], rfl, rfl, fun i uu d' hu' hd' => ?_⟩ (.refl _ _ _ _))
    match i, hu', hd' with
    | 0, hu', hd' => simp at hu' hd'; subst hu'; subst hd'; exact hvd
    | 1, hu', hd' => simp at hu' hd'; subst hu'; subst hd'; rfl
    | i + 2, hu', hd' => simp at hd'
   | false =>
    exact wp_value (v := v) (by simp only [execOp, he, hv, hkv, Sem.run_bind, hrun, Result.andThen_ok, Sem.run_pure]; rfl) (hn _ _ _ _ _ _ (hK2 rfl) g hvd (.refl _ _ _ _))
  cases f with
  | none =>
   subst hres
   have hK0 := hK zero rfl
   refine fin zz zero false hzrel (fun e => by subst e; exact hK0) (fun e => by subst e; exact hK0) ?_
   simp only [Instr.lookup, Sem.run_bind, run_underlying hu, Result.andThen_ok, MapKept.run_getObj_map hh, Sem.run_pure, keyV, hck]
   rw [show (Instr.findKey key (Value.agg (List.map cV (S.row kc u)).toArray) es.toList).run P w = .ok none w from hfind]
   simp [hzr]
  | some v =>
   obtain ⟨i, p, e, hp, hei, rfl, rfl⟩ := hres
   obtain ⟨_, e', he', _, hval⟩ := hr i p hp
   rw [hei] at he'
   cases he'
   have hlen := S.row_len vc p.2
   rw [hs1] at hlen
   obtain ⟨d0, hd0⟩ : ∃ d0, S.row vc p.2 = [d0] := by
    cases hrow : S.row vc p.2 with
    | nil => rw [hrow] at hlen; simp at hlen
    | cons d0 rest => cases rest with
     | nil => exact ⟨d0, rfl⟩
     | cons _ _ => rw [hrow] at hlen; simp at hlen
   have hK0 := hK d0 (by simp [hd0])
   refine fin e.val d0 true ((hval d0 (by rw [hd0]; rfl)).crel) (fun e => by subst e; exact hK0) (fun e => by subst e; exact hK0) ?_
   simp only [Instr.lookup, Sem.run_bind, run_underlying hu, Result.andThen_ok, MapKept.run_getObj_map hh, Sem.run_pure, keyV, hck]
   rw [show (Instr.findKey key (Value.agg (List.map cV (S.row kc u)).toArray) es.toList).run P w = .ok (some (i, e.val)) w from hfind]
   simp
theorem snd_mapadd {n : Nat} {y z v : Opd S.toTyS} (hT : ∀ id, σ.ev y = .c (.mapp id) → T id) (hc : chkI S P fid o.op (.mapadd n y z v) = true) (g : Gam S fid X σ a w ok ρ) (hk : (IOp.mapadd n y z v).vc O σ K) (hn : Owes S fid X a o next K w ok ρ T) : o.wp P a w next Q := by
 have main : ∀ t x i u', (∀ w, (execOp a.eval o).run P w = ((Instr.mapUpdate t (a.eval x) (a.eval i) (a.eval u')).run P w).andThen fun _ w => .ok .skip w) → (okOpd S.toTyS fid x y && okOpd S.toTyS fid i z && okOpd S.toTyS fid u' v && (match P.underlying t with
  | some (.map key _) => okKey P n key
  | _ => false)) = true → o.wp P a w next Q := by
  intro t x i u' hexec hc
  simp only [Bool.and_eq_true] at hc
  obtain ⟨⟨⟨h1, h2⟩, h2'⟩, h3⟩ := hc
  split at h3
  case h_2 => cases h3
  rename_i key elem hu
  have r1 := okOpd_rel h1 g
  have r3 := okOpd_rel h2' g
  simp only [IOp.vc, chk_iff, Bool.and_eq_true, decide_eq_true_eq] at hk
  split at hk
  case h_2 => exact hk.elim
  rename_i id hq
  rw [hq] at r1
  split at hk
  case h_2 => exact hk.elim
  rename_i kc vc l hid
  split at hk
  case h_2 => exact hk.elim
  rename_i ks vs hks hvs
  obtain ⟨⟨⟨hs1, hs2⟩, hint⟩, uu, vv, hu1, hv1, hf, hK⟩ := hk
  obtain ⟨b, nn, s, es, ck, hρ, hv, hh, hsz, hr⟩ := map_cells g hid r1
  have hkv := key_val h2 g hks hint hu1
  have hiu : intCells (S.row kc uu) = true := by rw [hu1]; exact hint
  obtain ⟨r, hfind, hres⟩ := key_find h3 hs2 hiu l es none hsz (fun i p hp => by obtain ⟨q1, e, q2, q3, _⟩ := hr i p hp; exact ⟨q1, e, q2, q3⟩) hf w
  have hres : r = none := hres
  subst hres
  have hck := key_check (P := P) h3 (xs := ((S.row kc uu).map cV).toArray) (by simp [S.row_len, hs2]) false w
  have hbl : b < w.heap.size := (Array.getElem?_eq_some_iff.1 hh).1
  let w' : World := { w with heap := w.heap.setIfInBounds b (.map (es.push ⟨keyV S kc uu, a.eval u', ck⟩) (ck + 1)) }
  have hrun : (Instr.mapUpdate t (.map (some b)) (keyV S kc uu) (a.eval u')).run P w = .ok () w' := by
   simp only [Instr.mapUpdate, Sem.run_bind, run_underlying hu, Result.andThen_ok, MapKept.run_getObj_map hh, Sem.run_pure]
   rw [show (Instr.checkKey false 10000 key (keyV S kc uu)).run P w = .ok () w from hck]
   simp only [Result.andThen_ok]
   rw [hfind]
   simp only [Result.andThen_ok, MapKept.run_setObj_map _ hh]
   rfl
  have hoth : ∀ b', b' ≠ b → w'.heap[b']? = w.heap[b']? := fun b' hne => by
   show (w.heap.setIfInBounds b _)[b']? = _
   rw [Array.getElem?_setIfInBounds, if_neg (Ne.symm hne)]
  have hself : w'.heap[b]? = some (.map (es.push ⟨keyV S kc uu, a.eval u', ck⟩) (ck + 1)) := by
   show (w.heap.setIfInBounds b _)[b]? = _
   rw [Array.getElem?_setIfInBounds, if_pos rfl, if_pos hbl]
  have hsize : w'.heap.size = w.heap.size := by show (w.heap.setIfInBounds b _).size = _; simp
  have hnok : ¬ ok b := g.mem.excl id _ b nn s hid rfl hρ
  have hval : ∀ d, (S.row vc vv)[0]? = some d → IRel S w ok (a.eval u') d := by
   intro d hd
   have hdat := S.row_data vc vv d (List.mem_of_getElem? hd)
   rw [hv1] at hd
   cases hd
   rw [hvs] at r3
   exact CRel.irel (fid := fid) (ρ := ρ) r3 hdat
  have g' := g.writeObj hid rfl hρ (w' := w') (e' := .map kc vc (l ++ [(uu, vv)])) rfl rfl rfl hsize hoth ⟨_, _, hself, by simp [hsz], fun i p hp => by
   rw [List.getElem?_append] at hp
   have hmono : ∀ {v : Value} {d : C S.toTyS}, IRel S w ok v d → IRel S w' ok v d := fun h => h.mono (fun b' hb' => hoth b' (fun e => hnok (e ▸ hb'))) (fun _ x => x)
   split at hp
   · rename_i hlt
     obtain ⟨q1, e, q2, q3, q4⟩ := hr i p hp
     have hie : i < es.size := (Array.getElem?_eq_some_iff.1 q2).1
     exact ⟨q1, e, by rw [Array.getElem?_push, if_neg (by omega)]; exact q2, q3, fun d hd => hmono (q4 d hd)⟩
   · rename_i hge
     have hi0 : i - l.length = 0 := by
      have := (List.getElem?_eq_some_iff.1 hp).1
      simp at this
      omega
     rw [hi0] at hp
     simp at hp
     subst hp
     have : i = es.size := by omega
     subst this
     exact ⟨hiu, ⟨keyV S kc uu, a.eval u', ck⟩, by rw [Array.getElem?_push, if_pos rfl], rfl, fun d hd => hmono (hval d hd)⟩⟩
  refine wp_skipv (by rw [hexec, hv, hkv, hrun]; rfl) (hn _ w' .any _ ok ρ hK g' trivial ⟨by rw [hsize]; exact Nat.le_refl _, fun b' hb' hor => hoth b' (fun e => ?_), fun _ x => x, fun _ _ _ _ _ h => h⟩)
  subst e
  rcases hor with hor | hor
  · exact hnok hor
  · exact hor id nn s (hT id hq) hρ
 simp only [chkI] at hc
 split at hc
 case h_3 => cases hc
 case h_1 t x i u' he => exact main t x i u' (fun w => by simp only [execOp, he]; simp) hc
 case h_2 t x i u' he => exact main t x i u' (fun w => by simp only [execOp, he]; simp) hc
end Go.Clap
