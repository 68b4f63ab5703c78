/- The checks of the small code against the loaded functions. -/
import Derived.Test.YtnjgakngmbbmfaaGreatDoorClapCode
set_option linter.unusedVariables false
set_option linter.unusedSimpArgs false
namespace Go.Clap
variable {S : Sig} {fid : Nat → FuncId} {P : Program} {X : Ctx S} {σ : St S.toTyS} {a : Act} {w : World} {ok : Nat → Prop} {ρ : Id → Where}
inductive Res where
 | t (k : Nat)
 | cell (k n : Nat) (agg : Bool)
structure Fn (T : TyS) where
 ntmps : Nat
 res : List Res
 body : IC T
def okRes (P : Program) : List ResultVar → List Res → Bool
 | [], [] => true
 | .tmp t :: xs, .t k :: ys => decide (t = k) && okRes P xs ys
 | .cell t ty :: xs, .cell k n agg :: ys => decide (t = k) && decide (isAggB P ty = some agg) && decide (szOf P ty = some n) && (agg || decide (n = 1)) && okRes P xs ys
 | _, _ => false
def readRes1 {T : TyS} (σ : St T) : Res → Option (D T)
 | .t k => match σ.get k with
  | .tup _ => none
  | d => some d
 | .cell k n agg => match σ.get k with
  | .c (.ptr id 0 0) => match σ.ent id with
   | some (.var cs) => if cs.length = n then some (mkD agg cs) else none
   | _ => none
  | _ => none
def readRes {T : TyS} (σ : St T) (res : List Res) : Option (D T) :=
 match res with
 | [r] => readRes1 σ r
 | rs => (rs.mapM (readRes1 σ)).map .tup
def lX (m : Nat) : List Id := (List.range m).map Id.x
def outF (res : List Res) (m : Nat) (σ : St S.toTyS) (R : D S.toTyS → List (Id × Option (Ent S.toTyS)) → Prop) : Prop :=
 ∃ L' : List Id, (lX m ++ L').Nodup ∧ match readRes σ res with
  | some d => R (d.ren (toX (lX m ++ L'))) (locX σ (lX m ++ L'))
  | none => False
def vcF (O : Oracle S.toTyS) (fn : Fn S.toTyS) (args : List (D S.toTyS)) (loc : List (Id × Option (Ent S.toTyS))) (R : D S.toTyS → List (Id × Option (Ent S.toTyS)) → Prop) : Prop :=
 args.length ≤ fn.ntmps ∧ loc.map (·.1) = lX loc.length ∧
 vcC O fn.body ⟨args.zipIdx.map (fun p => (p.2, p.1)), loc⟩ fun e σ => match e with
  | .ext _ => False
  | _ => outF fn.res loc.length σ R
theorem mem_locX' {L : List Id} (h3 : L.Nodup) (m : Mem S fid w ok ρ σ.ent) : Mem S fid w ok (rhoX L ρ) (entOf (locX σ L)) := by
 have hren : ∀ id i, toX L id = some i → rhoX L ρ i = ρ id ∨ rhoX L ρ i = .dead := fun id i hi => by
  obtain ⟨j, rfl, hj⟩ := toX_spec hi
  exact .inl (by simp [rhoX, hj])
 refine ⟨fun id e he => ?_, fun id he => ?_, fun i j b n s n' s' hi hj => ?_, fun id e b n s he hr hb => ?_, m.okl⟩
 · cases id with
   | x j =>
    rw [entOf_locX] at he
    cases hj : L[j]? with
    | none => rw [hj] at he; cases he
    | some i =>
     rw [hj] at he
     simp only [Option.bind_some, Option.map_eq_some_iff] at he
     obtain ⟨e', he', rfl⟩ := he
     have : rhoX L ρ (.x j) = ρ i := by simp [rhoX, hj]
     rw [this]
     exact (m.live i e' he').ren fun id i' _ hi' => hren id i' hi'
   | s n => rw [entOf_locX_ne L (by intro j h; cases h)] at he; cases he
   | sub i n => rw [entOf_locX_ne L (by intro j h; cases h)] at he; cases he
 · cases id with
   | x j =>
    rw [entOf_locX] at he
    cases hj : L[j]? with
    | none => simp [rhoX, hj]
    | some i =>
     rw [hj] at he
     simp only [Option.bind_some, Option.map_eq_none_iff] at he
     simpa [rhoX, hj] using m.gone i he
   | s n => rfl
   | sub i n => rfl
 · cases i <;> cases j <;> simp [rhoX] at hi hj
   rename_i i j
   cases h4 : L[i]? with
   | none => simp [h4] at hi
   | some id1 =>
    cases h5 : L[j]? with
    | none => simp [h5] at hj
    | some id2 =>
     simp [h4] at hi
     simp [h5] at hj
     have e := m.inj id1 id2 b n s n' s' hi hj
     subst e
     have h6 := (List.getElem?_eq_some_iff.1 h4).1
     have := (List.getElem?_inj h6 h3).1 (h4.trans h5.symm)
     rw [this]
 · cases id with
   | x j =>
    rw [entOf_locX] at he
    cases hj : L[j]? with
    | none => rw [hj] at he; cases he
    | some i =>
     rw [hj] at he
     simp only [Option.bind_some, Option.map_eq_some_iff] at he
     obtain ⟨e', he', rfl⟩ := he
     simp [rhoX, hj] at hb
     rw [Ent.ren_ro] at hr
     exact m.excl i e' b n s he' hr hb
   | s n => cases hb
   | sub i n => cases hb
theorem asAddr_ptr {b off : Nat} : asAddr (.pointer (some ⟨b, off, none⟩)) = pure ⟨b, off, none⟩ := rfl
def rdRes (tmps : Array Value) (r : ResultVar) : Sem Value :=
 match r with
 | .tmp t => pure (tmps.getD t undef)
 | .cell p t => do loadVar t (← asAddr (tmps.getD p undef))
theorem read1 {r : ResultVar} {q : Res} {d : D S.toTyS} (g : Gam S fid X σ a w ok ρ) (hq : okRes P [r] [q] = true) (hd : readRes1 σ q = some d) :
 ∃ v, (rdRes a.tmps r).run P w = .ok v w ∧ DRel1 S fid w ok ρ v d := by
 cases r with
 | tmp t =>
  cases q with
  | cell _ _ _ => simp [okRes] at hq
  | t k =>
   simp only [okRes, Bool.and_eq_true, decide_eq_true_eq, and_true] at hq
   subst hq
   simp only [readRes1] at hd
   refine ⟨a.tmps.getD t undef, by simp [rdRes], ?_⟩
   have hr := g.env t
   split at hd
   · cases hd
   · cases hd
     rename_i d _
     cases h : σ.get t with
     | tup ds => rename_i h'; exact absurd h (h' ds)
     | any => rw [h] at hr; exact hr
     | c x => rw [h] at hr; exact hr
     | agg cs => rw [h] at hr; exact hr
     | arrv c xs => rw [h] at hr; exact hr
 | cell p ty =>
  cases q with
  | t k => simp [okRes] at hq
  | cell k n agg =>
   simp only [okRes, Bool.and_eq_true, decide_eq_true_eq, and_true] at hq
   obtain ⟨⟨⟨rfl, h1⟩, h2⟩, h3⟩ := hq
   simp only [readRes1] at hd
   split at hd
   case h_2 => cases hd
   rename_i id hp
   split at hd
   case h_2 => cases hd
   rename_i cs he
   split at hd
   case isFalse => cases hd
   rename_i hn
   cases hd
   have hr := g.env p
   have hl := g.mem.live id _ he
   rw [hp] at hr
   simp only [DRel, DRel1, CRel] at hr
   cases hw : ρ id with
   | dead => rw [hw] at hl; exact hl.elim
   | empty => rw [hw] at hl; exact hl.elim
   | blk b n' s =>
    rw [hw] at hr hl
    obtain ⟨arr, t, h4, h5, h6⟩ := hl
    simp only [Nat.zero_mul, Nat.zero_add] at hr
    obtain ⟨v, hv, hvr⟩ := load_gen (S := S) (fid := fid) (P := P) (w := w) (ok := ok) (ρ := ρ) (b := b) (off := 0) (cs := cs) h1 h2 (by simpa using h3) hn (fun j d hd => by
     have hj := (List.getElem?_eq_some_iff.1 hd).1
     have hj' : j < arr.toList.length := by rw [h6.1]; exact hj
     refine ⟨arr.toList[j], ?_, h6.2 j _ _ (List.getElem?_eq_getElem hj') hd⟩
     have hj'' : j < arr.size := by simpa using hj'
     simp [World.cell?, h4, hj''])
    refine ⟨v, ?_, ?_⟩
    · show (do loadVar ty (← asAddr (a.tmps.getD p undef)) : Sem Value).run P w = _
      rw [hr]
      simp only [asAddr_ptr, Sem.run_bind, Sem.run_pure, Result.andThen_ok]
      exact hv w rfl
    · cases agg with
      | true => exact hvr
      | false =>
       simp at h3
       subst h3
       match cs, hn, hvr with
       | [x], _, hvr => exact hvr
theorem okRes_cons {r : ResultVar} {rs : List ResultVar} {q : Res} {qs : List Res} (h : okRes P (r :: rs) (q :: qs) = true) : okRes P [r] [q] = true ∧ okRes P rs qs = true := by
 cases r <;> cases q <;> simp [okRes] at h ⊢
 · exact h
 · obtain ⟨h1, h2⟩ := h
   exact ⟨h1, h2⟩
theorem results_eq (F : Func) (tmps : Array Value) : results F tmps = (do
 let vs ← F.results.mapM (rdRes tmps)
 pure (if h : vs.size = 1 then vs[0] else .tuple vs)) := rfl
theorem run_results0 {F : Func} {tmps : Array Value} (h : F.results = #[]) : (results F tmps).run P w = .ok (.tuple #[]) w := by
 simp [results_eq, h]
theorem run_results1 {F : Func} {tmps : Array Value} {r : ResultVar} {v : Value} (h : F.results = #[r]) (hv : (rdRes tmps r).run P w = .ok v w) : (results F tmps).run P w = .ok v w := by
 simp [results_eq, h, hv]
theorem run_results2 {F : Func} {tmps : Array Value} {r1 r2 : ResultVar} {v1 v2 : Value} (h : F.results = #[r1, r2]) (h1 : (rdRes tmps r1).run P w = .ok v1 w) (h2 : (rdRes tmps r2).run P w = .ok v2 w) :
 (results F tmps).run P w = .ok (.tuple #[v1, v2]) w := by
 simp [results_eq, h, h1, h2]
theorem run_results3 {F : Func} {tmps : Array Value} {r1 r2 r3 : ResultVar} {v1 v2 v3 : Value} (h : F.results = #[r1, r2, r3]) (h1 : (rdRes tmps r1).run P w = .ok v1 w) (h2 : (rdRes tmps r2).run P w = .ok v2 w) (h3 : (rdRes tmps r3).run P w = .ok v3 w) :
 (results F tmps).run P w = .ok (.tuple #[v1, v2, v3]) w := by
 simp [results_eq, h, h1, h2, h3]
theorem DRel1.up {v : Value} {d : D S.toTyS} (h : DRel1 S fid w ok ρ v d) : DRel S fid w ok ρ v d := by
 cases d with
 | tup _ => exact h.elim
 | any => exact h
 | c x => exact h
 | agg cs => exact h
 | arrv c xs => exact h
theorem read_all {F : Func} {res : List Res} {d : D S.toTyS} (hlen : F.results.size ≤ 3) (g : Gam S fid X σ a w ok ρ) (hq : okRes P F.results.toList res = true) (hd : readRes σ res = some d) :
 ∃ v, (results F a.tmps).run P w = .ok v w ∧ DRel S fid w ok ρ v d := by
 obtain ⟨l, hl⟩ : ∃ l, F.results = Array.mk l := ⟨F.results.toList, rfl⟩
 rw [hl] at hq hlen
 simp only at hq
 match l, res, hq, hlen with
 | [], [], _, _ =>
  simp [readRes] at hd
  subst hd
  exact ⟨_, run_results0 hl, #[], rfl, rfl, fun i u d hu => by simp at hu⟩
 | [r], [q], hq, _ =>
  obtain ⟨v, h1, h2⟩ := read1 g hq hd
  exact ⟨v, run_results1 hl h1, h2.up⟩
 | [r1, r2], [q1, q2], hq, _ =>
  obtain ⟨k1, k2⟩ := okRes_cons hq
  simp only [readRes, List.mapM_cons, List.mapM_nil, Option.bind_eq_bind, Option.pure_def] at hd
  cases e1 : readRes1 σ q1 with
  | none => simp [e1] at hd
  | some d1 =>
   cases e2 : readRes1 σ q2 with
   | none => simp [e1, e2] at hd
   | some d2 =>
    simp [e1, e2] at hd
    subst hd
    obtain ⟨v1, h1, h2⟩ := read1 g k1 e1
    obtain ⟨v2, h3, h4⟩ := read1 g k2 e2
    refine ⟨_, run_results2 hl h1 h3, #[v1, v2], rfl, rfl, fun i u d hu hd => ?_⟩
    match i, hu, hd with
    | 0, hu, hd => simp at hu hd; subst hu; subst hd; exact h2
    | 1, hu, hd => simp at hu hd; subst hu; subst hd; exact h4
    | i + 2, hu, hd => simp at hd
 | [r1, r2, r3], [q1, q2, q3], hq, _ =>
  obtain ⟨k1, hq⟩ := okRes_cons hq
  obtain ⟨k2, k3⟩ := okRes_cons hq
  simp only [readRes, List.mapM_cons, List.mapM_nil, Option.bind_eq_bind, Option.pure_def] at hd
  cases e1 : readRes1 σ q1 with
  | none => simp [e1] at hd
  | some d1 =>
   cases e2 : readRes1 σ q2 with
   | none => simp [e1, e2] at hd
   | some d2 =>
    cases e3 : readRes1 σ q3 with
    | none => simp [e1, e2, e3] at hd
    | some d3 =>
     simp [e1, e2, e3] at hd
     subst hd
     obtain ⟨v1, h1, h2⟩ := read1 g k1 e1
     obtain ⟨v2, h3, h4⟩ := read1 g k2 e2
     obtain ⟨v3, h5, h6⟩ := read1 g k3 e3
     refine ⟨_, run_results3 hl h1 h3 h5, #[v1, v2, v3], rfl, rfl, fun i u d hu hd => ?_⟩
     match i, hu, hd with
     | 0, hu, hd => simp at hu hd; subst hu; subst hd; exact h2
     | 1, hu, hd => simp at hu hd; subst hu; subst hd; exact h4
     | 2, hu, hd => simp at hu hd; subst hu; subst hd; exact h6
     | i + 3, hu, hd => simp at hd
 | [], _ :: _, hq, _ => simp [okRes] at hq
 | [_], [], hq, _ => rename_i r; cases r <;> simp [okRes] at hq
 | [_], _ :: _ :: _, hq, _ => exact absurd (okRes_cons hq).2 (by simp [okRes])
 | [_, _], [], hq, _ => rename_i r _; cases r <;> simp [okRes] at hq
 | [_, _], [_], hq, _ => have := (okRes_cons hq).2; rename_i r _ _; cases r <;> simp [okRes] at this
 | [_, _], _ :: _ :: _ :: _, hq, _ => exact absurd (okRes_cons (okRes_cons hq).2).2 (by simp [okRes])
 | [_, _, _], [], hq, _ => rename_i r _ _; cases r <;> simp [okRes] at hq
 | [_, _, _], [_], hq, _ => have := (okRes_cons hq).2; rename_i r _ _ _; cases r <;> simp [okRes] at this
 | [_, _, _], [_, _], hq, _ => have := (okRes_cons (okRes_cons hq).2).2; rename_i r _ _ _; cases r <;> simp [okRes] at this
 | [_, _, _], _ :: _ :: _ :: _ :: _, hq, _ => exact absurd (okRes_cons (okRes_cons (okRes_cons hq).2).2).2 (by simp [okRes])
 | _ :: _ :: _ :: _ :: _, _, _, hlen => simp at hlen
def chkF (S : Sig) (P : Program) (fid : Nat → FuncId) (f : Nat) (fn : Fn S.toTyS) : Bool :=
 match P.funcs[fid f]? with
 | some F => match F.body with
  | some c => decide (F.ntmps = fn.ntmps) && okRes P F.results.toList fn.res && decide (F.results.size ≤ 3) && !(F.name == "runtime.NumGoroutine") && chkC S P fid fn.ntmps fn.body c
  | none => false
 | none => false
theorem lookup_zipIdx_args (args : List (D S.toTyS)) : ∀ (n k : Nat), ((args.zipIdx n).map fun p => (p.2, p.1)).lookup k = if n ≤ k then args[k - n]? else none := by
 induction args with
 | nil => intro n k; simp
 | cons d ds ih =>
  intro n k
  simp only [List.zipIdx_cons, List.map_cons, List.lookup_cons]
  by_cases e : k = n
  · subst e; simp
  · have : (k == n) = false := by simpa using e
    simp only [this]
    rw [ih (n + 1) k]
    by_cases h2 : n ≤ k
    · rw [if_pos (by omega), if_pos h2]
      obtain ⟨j, rfl⟩ : ∃ j, k = n + 1 + j := ⟨k - n - 1, by omega⟩
      rw [show n + 1 + j - (n + 1) = j by omega, show n + 1 + j - n = j + 1 by omega]
      simp
    · rw [if_neg (by omega), if_neg h2]
theorem entOf_keys {loc : List (Id × Option (Ent S.toTyS))} {m : Nat} (hk : loc.map (·.1) = lX m) {id : Id} (h : entOf loc id ≠ none) : ∃ j, j < m ∧ id = .x j := by
 unfold entOf at h
 cases hl : loc.lookup id with
 | none => simp [hl] at h
 | some o =>
  have := List.mem_map_of_mem (f := (·.1)) (lookup_mem hl)
  rw [hk] at this
  simp only [lX, List.mem_map, List.mem_range] at this
  obtain ⟨j, h1, h2⟩ := this
  exact ⟨j, h1, h2.symm⟩
theorem spec_of_vc (hmx : P.follows .mixedOrders = true) {f : Nat} {fn : Fn S.toTyS} {args : List (D S.toTyS)} {loc : List (Id × Option (Ent S.toTyS))} {R : D S.toTyS → List (Id × Option (Ent S.toTyS)) → Prop}
 (hc : chkF S P fid f fn = true) (hv : vcF (Spec S P fid) fn args loc R) : Spec S P fid f args loc R := by
 unfold chkF at hc
 split at hc
 case h_2 => cases hc
 rename_i F hF
 split at hc
 case h_2 => cases hc
 rename_i c hb
 simp only [Bool.and_eq_true, decide_eq_true_eq, Bool.not_eq_true'] at hc
 obtain ⟨⟨⟨⟨h1, h2⟩, h3⟩, h4⟩, h5⟩ := hc
 obtain ⟨hal, hlx, hv⟩ := hv
 refine ⟨⟨F, hF, by simp [hb], h4⟩, fun w vals ok ρ hl hr hm hgl => ?_⟩
 let X : Ctx S := ⟨fn.ntmps, w, ok, fun b => ∃ id n s, ρ id = .blk b n s, fun j => ρ (.x j), fun b hb => ⟨(hgl b hb).1, fun ⟨id, n, s, h⟩ => (hgl b hb).2.1 id n s h, hm.okl b (hgl b hb).1, (hgl b hb).2.2⟩⟩
 have g : Gam S fid X ⟨args.zipIdx.map (fun p => (p.2, p.1)), loc⟩ { tmps := vals ++ Array.replicate (F.ntmps - vals.size) undef, defers := [] } w ok ρ := by
  refine ⟨rfl, ?_, fun k => ?_, hm, fun b hb => .inl hb, fun id b n s hb => .inr ⟨id, n, s, hb⟩, ⟨rfl, rfl, rfl, Nat.le_refl _, fun _ _ _ => rfl⟩, fun _ hb => hb, fun _ => .inl rfl⟩
  · show (vals ++ Array.replicate (F.ntmps - vals.size) undef).size = fn.ntmps
    rw [Array.size_append, Array.size_replicate]; omega
  · unfold St.get
    rw [lookup_zipIdx_args args 0 k]
    simp only [Nat.zero_le, if_true, Nat.sub_zero]
    cases hk : args[k]? with
    | none => exact True.intro
    | some d =>
     have hka := (List.getElem?_eq_some_iff.1 hk).1
     have hkv : k < vals.size := by omega
     have : (vals ++ Array.replicate (F.ntmps - vals.size) undef).getD k undef = vals[k] := by
      rw [Array.getD_eq_getD_getElem?, Array.getElem?_append_left hkv]
      simp [hkv]
     show DRel S fid w ok ρ ((vals ++ Array.replicate (F.ntmps - vals.size) undef).getD k undef) d
     rw [this]
     exact hr k _ d (by simp [hkv]) hk
 refine calls_of_wp hF hb (wp_mono (snd_C rfl hmx fn.body c _ _ w ok ρ _ h5 hv g) fun e a' w' h => ?_)
 have fin : ∀ σ', (∃ ok' ρ', outF fn.res loc.length σ' R ∧ Gam S fid X σ' a' w' ok' ρ') → a'.defers = [] ∧ ∃ v, (results F a'.tmps).run P w' = .ok v w' ∧
  ∃ v' r loc' ok' ρ', Ending.returned v = .returned v' ∧ R r loc' ∧ DRel S fid w' ok' ρ' v' r ∧ Mem S fid w' ok' ρ' (entOf loc') ∧
  (∀ b, ok' b → ok b ∨ w.heap.size ≤ b ∨ ∃ id n s, ρ id = .blk b n s) ∧ (∀ b, ok b → ok' b) ∧
  (∀ id, entOf loc id ≠ none → ρ' id = ρ id ∨ ρ' id = .dead) ∧
  (∀ id b n s, ρ' id = .blk b n s → w.heap.size ≤ b ∨ ∃ id0 n0 s0, ρ id0 = .blk b n0 s0) ∧
  w'.os = w.os ∧ w'.tape = w.tape ∧ w'.output = w.output ∧ w.heap.size ≤ w'.heap.size ∧
  ∀ b, b < w.heap.size → (∀ id n s, ρ id ≠ .blk b n s) → w'.heap[b]? = w.heap[b]? := by
  rintro σ' ⟨ok', ρ', ⟨L', hnd, hR⟩, g'⟩
  split at hR
  case h_2 => exact hR.elim
  rename_i d hd
  obtain ⟨v, hv1, hv2⟩ := read_all h3 g' h2 hd
  refine ⟨g'.defers, v, hv1, v, _, _, ok', rhoX (lX loc.length ++ L') ρ', rfl, hR, hv2.ren fun id i _ hi => ?_, mem_locX' hnd g'.mem, fun b hb => ?_, g'.okm, fun id hid => ?_, fun id b n s hb => ?_,
   g'.fr.os, g'.fr.tape, g'.fr.output, g'.fr.size, fun b hb hno => g'.fr.block b hb fun ⟨id, n, s, h⟩ => hno id n s h⟩
  · obtain ⟨j, rfl, hj⟩ := toX_spec hi
    exact .inl (by simp [rhoX, hj])
  · exact g'.okf b hb
  · obtain ⟨j, hj, rfl⟩ := entOf_keys hlx hid
    have : (lX loc.length ++ L')[j]? = some (.x j) := by
     rw [List.getElem?_append_left (by simpa [lX] using hj)]
     simp [lX, hj]
    have h' : rhoX (lX loc.length ++ L') ρ' (.x j) = ρ' (.x j) := by simp [rhoX, this]
    rw [h']
    exact g'.xst j
  · cases id with
    | x j =>
     simp only [rhoX] at hb
     split at hb
     · exact g'.ownf _ b n s hb
     · cases hb
    | s n => cases hb
    | sub i n => cases hb
 cases e with
 | normal => obtain ⟨σ', ok', ρ', h6, h7⟩ := h; exact fin σ' ⟨ok', ρ', h6, h7⟩
 | ret => obtain ⟨σ', ok', ρ', h6, h7⟩ := h; exact fin σ' ⟨ok', ρ', h6, h7⟩
 | exit i => obtain ⟨σ', ok', ρ', h6, h7⟩ := h; exact h6.elim
 | goto l => exact h.elim
 | panic ch => exact h.elim
 | outgrown => exact h.elim
end Go.Clap
