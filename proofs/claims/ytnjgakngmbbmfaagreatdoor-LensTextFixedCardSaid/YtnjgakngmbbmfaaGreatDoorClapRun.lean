/- The checks of the small code against the loaded functions. -/
import Derived.Test.YtnjgakngmbbmfaaGreatDoorClapCall
import Derived.Test.YtnjgakngmbbmfaaGreatDoorClapSound8
import Derived.OrdersHeld
set_option linter.unusedVariables false
set_option linter.unusedSimpArgs false
namespace Go.Clap
variable {S : Sig} {fid : Nat → FuncId} {P : Program} {X : Ctx S} {σ : St S.toTyS} {a : Act} {w : World} {ok : Nat → Prop} {ρ : Id → Where}
variable {o : Oper} {next : Act → World → Prop} {Q : Exit → Act → World → Prop} {K : D S.toTyS → St S.toTyS → Prop} {T : Id → Prop}
theorem snd_op (i : IOp S.toTyS) (hT : ∀ i, T i) (hc : chkI S P fid o.op i = true) (g : Gam S fid X σ a w ok ρ) (hk : i.vc (Spec S P fid) σ K) (hn : Owes S fid X a o next K w ok ρ T) : o.wp P a w next Q := by
 cases i with
 | mv x => exact snd_of_py (py_mv hc g hk) g hn
 | pick c x y => exact snd_of_py (py_pick hc g hk) g hn
 | box k x => exact snd_box hc g hk hn
 | alloc k z => exact snd_alloc hc g hk hn
 | build z ps => exact snd_of_py (py_build hc g hk) g hn
 | bslice k c ps => exact snd_bslice hc g hk hn
 | bsl c ps => exact snd_bsl hc g hk hn
 | load p n agg => exact snd_load hc g hk hn
 | store p x n => exact snd_store (fun _ _ _ _ => hT _) hc g hk hn
 | fa p off => exact snd_of_py (py_fa hc g hk) g hn
 | fld x off n agg => exact snd_of_py (py_fld hc g hk) g hn
 | nilck x => exact snd_of_py (py_nilck hc g hk) g hn
 | idxA x i sz => exact snd_of_py (py_idxA hc g hk) g hn
 | idxArr x i sz ln => exact snd_of_py (py_idxArr hc g hk) g hn
 | idxS x i => exact snd_of_py (py_idxS hc g hk) g hn
 | idxG x i ln => exact snd_of_py (py_idxG hc g hk) g hn
 | ext x i => exact snd_of_py (py_ext hc g hk) g hn
 | bin op ty x y => exact snd_of_py (py_bin hc g hk) g hn
 | un op x => exact snd_of_py (py_un hc g hk) g hn
 | conv k x => exact snd_of_py (py_conv hc g hk) g hn
 | len st x => exact snd_of_py (py_len hc g hk) g hn
 | app k c mx x y => exact snd_app (fun _ _ _ _ => hT _) hc g hk hn
 | apps k c mx x y => exact snd_apps (fun _ _ _ _ => hT _) hc g hk hn
 | slc sz x lo hi => exact snd_of_py (py_slc hc g hk) g hn
 | mk k c z mx n => exact snd_mk hc g hk hn
 | mkf f caps => exact snd_of_py (py_mkf hc g hk) g hn
 | mn xs => exact snd_of_py (py_mn hc g hk) g hn
 | mx xs => exact snd_of_py (py_mx hc g hk) g hn
 | s2b x => exact snd_s2b hc g hk hn
 | b2s x => exact snd_b2s hc g hk hn
 | mark x => exact snd_mark (fun _ _ _ _ => hT _) hc g hk hn
 | idxC x i sz ln => exact snd_of_py (py_idxC hc g hk) g hn
 | allocR k c n z => exact snd_allocR hc g hk hn
 | idxR x i sz ln => exact snd_of_py (py_idxR hc g hk) g hn
 | loadR p n => exact snd_loadR hc g hk hn
 | bslR c x => exact snd_bslR hc g hk hn
 | isnil ne x => exact snd_of_py (py_isnil hc g hk) g hn
 | mki => exact snd_of_py (py_mki hc g hk) g hn
 | mke x => exact snd_of_py (py_mke hc g hk) g hn
 | eqe ne x y => exact snd_of_py (py_eqe hc g hk) g hn
 | ldg b => exact snd_ldg hc g hk hn
 | mkmap k kc vc => exact snd_mkmap hc g hk hn
 | mapget n x y z ok => exact snd_mapget hc g hk hn
 | mapadd n x y z => exact snd_mapadd (fun _ _ => hT _) hc g hk hn
 | xcmp x y => exact snd_of_py (py_xcmp hc g hk) g hn
 | xidx x y => exact snd_of_py (py_xidx hc g hk) g hn
 | call k f ys =>
  obtain ⟨vals, h1, h2, h3⟩ := call_facts hc g
  exact snd_vcCall hT g h1 h2 hk h3 hn
 | callv k fx ys =>
  simp only [IOp.vc, chk_iff, decide_eq_true_eq] at hk
  split at hk
  · rename_i f caps hq
    obtain ⟨vals, h1, h2, h3⟩ := callv_facts hc g hq hk.1
    exact snd_vcCall hT g h1 h2 hk.2 h3 hn
  · exact hk.elim
theorem snd_opT (i : IOp S.toTyS) {M : List Id} (hc : chkI S P fid o.op i = true) (g : Gam S fid X σ a w ok ρ) (hk : i.tvc (Spec S P fid) M σ K) (hn : Owes S fid X a o next K w ok ρ (· ∈ M)) : o.wp P a w next Q := by
 cases i with
 | box k x => exact snd_box (O := Spec S P fid) hc g hk hn
 | alloc k z => exact snd_alloc (O := Spec S P fid) hc g hk hn
 | bslice k c ps => exact snd_bslice (O := Spec S P fid) hc g hk hn
 | bsl c ps => exact snd_bsl (O := Spec S P fid) hc g hk hn
 | load p n agg => exact snd_load (O := Spec S P fid) hc g hk hn
 | mk k c z mx n => exact snd_mk (O := Spec S P fid) hc g hk hn
 | store p x n =>
  obtain ⟨h1, hk⟩ := chk_iff.1 hk
  exact snd_store (fun id e off hq => by rw [hq] at h1; simpa using h1) hc g hk hn
 | app k c mx x y =>
  obtain ⟨h1, hk⟩ := chk_iff.1 hk
  exact snd_app (fun id e off hq => by rw [hq] at h1; simpa using h1) hc g hk hn
 | apps k c mx x y =>
  obtain ⟨h1, hk⟩ := chk_iff.1 hk
  exact snd_apps (fun id e off hq => by rw [hq] at h1; simpa using h1) hc g hk hn
 | call k f ys =>
  obtain ⟨L, hk⟩ := hk
  obtain ⟨hL, hk⟩ := chk_iff.1 hk
  obtain ⟨vals, h1, h2, h3⟩ := call_facts hc g
  exact snd_vcCallL (fun i hi => by rw [List.all_eq_true] at hL; simpa using hL i hi) g h1 h2 hk h3 hn
 | callv k fx ys =>
  simp only [IOp.tvc, chk_iff] at hk
  split at hk
  · rename_i f caps hq
    obtain ⟨h0, L, hL, hk⟩ := hk
    obtain ⟨vals, h1, h2, h3⟩ := callv_facts hc g hq h0
    exact snd_vcCallL (fun i hi => by rw [List.all_eq_true] at hL; simpa using hL i hi) g h1 h2 hk h3 hn
  · exact hk.elim
 | mv x => exact snd_of_py (py_mv (O := Spec S P fid) hc g hk) g hn
 | pick c x y => exact snd_of_py (py_pick (O := Spec S P fid) hc g hk) g hn
 | build z ps => exact snd_of_py (py_build (O := Spec S P fid) hc g hk) g hn
 | fa p off => exact snd_of_py (py_fa (O := Spec S P fid) hc g hk) g hn
 | fld x off n agg => exact snd_of_py (py_fld (O := Spec S P fid) hc g hk) g hn
 | nilck x => exact snd_of_py (py_nilck (O := Spec S P fid) hc g hk) g hn
 | idxA x i sz => exact snd_of_py (py_idxA (O := Spec S P fid) hc g hk) g hn
 | idxArr x i sz ln => exact snd_of_py (py_idxArr (O := Spec S P fid) hc g hk) g hn
 | idxS x i => exact snd_of_py (py_idxS (O := Spec S P fid) hc g hk) g hn
 | idxG x i ln => exact snd_of_py (py_idxG (O := Spec S P fid) hc g hk) g hn
 | ext x i => exact snd_of_py (py_ext (O := Spec S P fid) hc g hk) g hn
 | bin op ty x y => exact snd_of_py (py_bin (O := Spec S P fid) hc g hk) g hn
 | un op x => exact snd_of_py (py_un (O := Spec S P fid) hc g hk) g hn
 | conv k x => exact snd_of_py (py_conv (O := Spec S P fid) hc g hk) g hn
 | len st x => exact snd_of_py (py_len (O := Spec S P fid) hc g hk) g hn
 | slc sz x lo hi => exact snd_of_py (py_slc (O := Spec S P fid) hc g hk) g hn
 | mkf f caps => exact snd_of_py (py_mkf (O := Spec S P fid) hc g hk) g hn
 | mn xs => exact snd_of_py (py_mn (O := Spec S P fid) hc g hk) g hn
 | mx xs => exact snd_of_py (py_mx (O := Spec S P fid) hc g hk) g hn
 | s2b x => exact snd_s2b (O := Spec S P fid) hc g hk hn
 | b2s x => exact snd_b2s (O := Spec S P fid) hc g hk hn
 | mark x =>
  obtain ⟨h1, hk⟩ := chk_iff.1 hk
  exact snd_mark (O := Spec S P fid) (fun id off ln hq => by rw [hq] at h1; simpa using h1) hc g hk hn
 | idxC x i sz ln => exact snd_of_py (py_idxC (O := Spec S P fid) hc g hk) g hn
 | allocR k c n z => exact snd_allocR (O := Spec S P fid) hc g hk hn
 | idxR x i sz ln => exact snd_of_py (py_idxR (O := Spec S P fid) hc g hk) g hn
 | loadR p n => exact snd_loadR (O := Spec S P fid) hc g hk hn
 | bslR c x => exact snd_bslR (O := Spec S P fid) hc g hk hn
 | isnil ne x => exact snd_of_py (py_isnil (O := Spec S P fid) hc g hk) g hn
 | mki => exact snd_of_py (py_mki (O := Spec S P fid) hc g hk) g hn
 | mke x => exact snd_of_py (py_mke (O := Spec S P fid) hc g hk) g hn
 | eqe ne x y => exact snd_of_py (py_eqe (O := Spec S P fid) hc g hk) g hn
 | ldg b => exact snd_ldg (O := Spec S P fid) hc g hk hn
 | mkmap k kc vc => exact snd_mkmap (O := Spec S P fid) hc g hk hn
 | mapget n x y z ok => exact snd_mapget (O := Spec S P fid) hc g hk hn
 | mapadd n x y z =>
  obtain ⟨h1, hk⟩ := chk_iff.1 hk
  exact snd_mapadd (O := Spec S P fid) (fun id hq => by rw [hq] at h1; simpa using h1) hc g hk hn
 | xcmp x y => exact snd_of_py (py_xcmp hc g hk) g hn
 | xidx x y => exact snd_of_py (py_xidx hc g hk) g hn
def chkIns (S : Sig) (P : Program) (fid : Nat → FuncId) (n : Nat) (ops : Array Oper) (o : Oper) (i : Ins S.toTyS) : Bool :=
 decide (o.dst = i.dst) && (match i.dst with | some k => decide (k < n) | none => true) &&
 (match o.guard, i.guard with
  | none, none => true
  | some (j, want), some (k, want') => decide ((ops[j]?).bind (·.dst) = some k) && want == want'
  | _, _ => false) && chkI S P fid o.op i.op
theorem put_dst {i : Ins S.toTyS} (h : o.dst = i.dst) (hn : (match i.dst with | some k => decide (k < X.n) | none => true) = true) (g : Gam S fid X σ a w ok ρ) {v : Value} {d : D S.toTyS} (hd : DRel S fid w ok ρ v d) :
 Gam S fid X (setO σ i.dst d) (a.put o.dst v) w ok ρ := by
 rw [h]
 cases hi : i.dst with
 | none => exact g
 | some k => rw [hi] at hn; exact g.set (by simpa using hn) hd
theorem undef_rel : DRel S fid w ok ρ undef (.tup []) := ⟨#[], rfl, rfl, fun i u d hu => by simp at hu⟩
theorem wanted_of {ops : Array Oper} {i : Ins S.toTyS} (hg : (match o.guard, i.guard with
 | none, none => true
 | some (j, want), some (k, want') => decide ((ops[j]?).bind (·.dst) = some k) && want == want'
 | _, _ => false) = true) (g : Gam S fid X σ a w ok ρ) :
  (i.guard = none ∧ Region.wanted o (yielded ops a.tmps) = true) ∨ ∃ k want, i.guard = some (k, want) ∧ (∀ b, σ.get k = .c (.bool b) → Region.wanted o (yielded ops a.tmps) = (b == want)) ∧ (σ.get k = .tup [] → Region.wanted o (yielded ops a.tmps) = false) := by
 cases hog : o.guard with
 | none =>
  cases hig : i.guard with
  | none => exact .inl ⟨rfl, by simp [Region.wanted, hog]⟩
  | some _ => rw [hog, hig] at hg; cases hg
 | some jw =>
  obtain ⟨j, want⟩ := jw
  cases hig : i.guard with
  | none => rw [hog, hig] at hg; cases hg
  | some kw =>
   obtain ⟨k, want'⟩ := kw
   rw [hog, hig] at hg
   simp only [Bool.and_eq_true, decide_eq_true_eq, beq_iff_eq] at hg
   obtain ⟨h1, rfl⟩ := hg
   refine .inr ⟨k, want, rfl, fun b hb => ?_, fun hb => ?_⟩
   rotate_left
   · have hr := g.env k
     rw [hb] at hr
     obtain ⟨arr, hv, _⟩ := hr
     rw [Array.getD_eq_getD_getElem?] at hv
     cases ht : a.tmps[k]? with
     | none => simp [Region.wanted, hog, yielded, h1, ht]
     | some v => rw [ht] at hv; simp at hv; subst hv; simp [Region.wanted, hog, yielded, h1, ht]
   have hr := g.env k
   rw [hb] at hr
   have hv : a.tmps.getD k undef = .bool b := hr
   have hv' : a.tmps[k]? = some (.bool b) := by
    rw [Array.getD_eq_getD_getElem?] at hv
    cases ht : a.tmps[k]? with
    | none => rw [ht] at hv; cases hv
    | some v => rw [ht] at hv; simp at hv; rw [hv]
   simp [Region.wanted, hog, yielded, h1, hv']
theorem snd_opsA {n : Nat} {ops : Array Oper} (hXn : X.n = n) (l2 : List Nat) : ∀ (is : List (Ins S.toTyS)) (l : List Nat) (σ : St S.toTyS) (a : Act) (w : World) (ok : Nat → Prop) (ρ : Id → Where) (K : St S.toTyS → Prop),
 l.length = is.length → (∀ (j idx : Nat) i, l[j]? = some idx → is[j]? = some i → ∃ o, ops[idx]? = some o ∧ chkIns S P fid n ops o i = true) →
 Gam S fid X σ a w ok ρ → vcOps (Spec S P fid) is σ K → (∀ σ' a' w' ok' ρ', K σ' → Gam S fid X σ' a' w' ok' ρ' → wpOps P ops Q l2 a' w') → wpOps P ops Q (l ++ l2) a w
 | [], l, σ, a, w, ok, ρ, K, hl, _, g, hk, hQ => by
  have : l = [] := by simpa using hl
  subst this
  exact hQ σ a w ok ρ hk g
 | i :: is, [], _, _, _, _, _, _, hl, _, _, _, _ => by simp at hl
 | i :: is, idx :: l, σ, a, w, ok, ρ, K, hl, hc, g, hk, hQ => by
  obtain ⟨o, ho, hch⟩ := hc 0 idx i rfl rfl
  simp only [chkIns, Bool.and_eq_true, decide_eq_true_eq] at hch
  obtain ⟨⟨⟨h1, h2⟩, h3⟩, h4⟩ := hch
  rw [← hXn] at h2
  have hc' : ∀ (j idx' : Nat) i', l[j]? = some idx' → is[j]? = some i' → ∃ o, ops[idx']? = some o ∧ chkIns S P fid n ops o i' = true := fun j idx' i' hj hi => hc (j + 1) idx' i' (by simpa using hj) (by simpa using hi)
  have hl' : l.length = is.length := by simpa using hl
  have ih := fun σ' a' w' ok' ρ' (hg' : Gam S fid X σ' a' w' ok' ρ') (hk' : vcOps (Spec S P fid) is σ' K) => snd_opsA hXn l2 is l σ' a' w' ok' ρ' K hl' hc' hg' hk' hQ
  have run : ∀ (Kk : St S.toTyS → Prop), i.op.vc (Spec S P fid) σ (fun d σ' => vcOps (Spec S P fid) is (setO σ' i.dst d) K) → o.wp P a w (wpOps P ops Q (l ++ l2)) Q := fun _ hk' =>
   snd_op (T := fun _ => True) i.op (fun _ => trivial) h4 g hk' (fun v w' d σ' ok' ρ' hK hg hd _ => ih _ _ _ _ _ (put_dst h1 h2 hg hd) hK)
  simp only [List.cons_append, wpOps, ho]
  simp only [vcOps, Ins.vc] at hk
  rcases wanted_of h3 g with ⟨hg, hw⟩ | ⟨k, want, hg, hw, hw0⟩
  · rw [hg] at hk
    simp only at hk
    rw [if_pos hw]
    exact .inl (run (fun _ => True) hk)
  · rw [hg] at hk
    simp only at hk
    split at hk
    case h_3 => exact hk.elim
    case h_2 hb =>
     rw [hw0 hb, if_neg (by decide)]
     exact ih _ _ _ _ _ (put_dst h1 h2 g (d := .tup []) undef_rel) hk
    rename_i b hb
    rw [hw b hb]
    by_cases hbw : b = want
    · rw [if_pos (by simpa using hbw)]
      exact .inl (run (fun _ => True) ((gsel_iff.1 hk).1 hbw))
    · rw [if_neg (by simpa using hbw)]
      exact ih _ _ _ _ _ (put_dst h1 h2 g (d := .tup []) undef_rel) ((gsel_iff.1 hk).2 hbw)
theorem snd_ops {n : Nat} {ops : Array Oper} (hXn : X.n = n) (is : List (Ins S.toTyS)) (l : List Nat) (σ : St S.toTyS) (a : Act) (w : World) (ok : Nat → Prop) (ρ : Id → Where) (K : St S.toTyS → Prop)
 (hl : l.length = is.length) (hc : ∀ (j idx : Nat) i, l[j]? = some idx → is[j]? = some i → ∃ o, ops[idx]? = some o ∧ chkIns S P fid n ops o i = true)
 (g : Gam S fid X σ a w ok ρ) (hk : vcOps (Spec S P fid) is σ K) (hQ : ∀ σ' a' w' ok' ρ', K σ' → Gam S fid X σ' a' w' ok' ρ' → Q .normal a' w') : wpOps P ops Q l a w := by
 have := snd_opsA hXn [] is l σ a w ok ρ K hl hc g hk (fun σ' a' w' ok' ρ' h1 h2 => hQ σ' a' w' ok' ρ' h1 h2)
 rwa [List.append_nil] at this
section drawn
variable {ops : Array Oper} {md : Region.Mode}
def wpAnyT (P : Program) (md : Region.Mode) (ops : Array Oper) (Q : Exit → Act → World → Prop) (Tt : Array Bool → World → Prop) : Nat → Array Bool → Act → World → Prop
 | 0, listed, a, w => Region.ready md ops listed = [] ∧ Q .normal a w
 | fuel + 1, listed, a, w =>
  (Region.ready md ops listed = [] → Q .normal a w) ∧
  ∀ i ∈ Region.ready md ops listed, wpOp P ops Q i (fun a' w' => Tt (listed.setIfInBounds i true) w' ∧ wpAnyT P md ops Q Tt fuel (listed.setIfInBounds i true) a' w') a w
theorem wpAny_of_T {Tt : Array Bool → World → Prop} : ∀ (fuel : Nat) (listed : Array Bool) (a : Act) (w : World), wpAnyT P md ops Q Tt fuel listed a w → wpAny P md ops Q fuel listed a w
 | 0, _, _, _, h => h
 | fuel + 1, _, _, _, h => ⟨h.1, fun i hi => wpOp_mono (fun a' w' h' => wpAny_of_T fuel _ a' w' h'.2) (h.2 i hi)⟩
def LateOr (late : List Nat) (Sw : World → Prop) (listed : Array Bool) (w : World) : Prop := (∃ l ∈ late, listed.getD l false = true) ∨ Sw w
theorem wpAnyT_load {late : List Nat} {Sw : World → Prop} {i : Nat} {oi : Oper} {v : Value} (hi : ops[i]? = some oi) (hsel : ∀ (j : Nat) (o : Oper) cs b, ops[j]? = some o → o.op ≠ .select cs b)
 (hQ : ∀ c a w, Q (.panic c) (a.put oi.dst v) w → Q (.panic c) a w) (hil : i ∉ late) (hlate : ∀ l ∈ late, ∀ ol, ops[l]? = some ol → ∃ e ∈ ol.after, Region.binds md e = true ∧ e.on = i) :
 ∀ (fuel : Nat) (listed : Array Bool) (a : Act) (w : World),
  (∀ j oj, ops[j]? = some oj → j ≠ i → listed.getD j true = false → (∀ e ∈ oj.after, Region.binds md e = true → e.on ≠ i) → oi.apart ops oj = true) →
  i ∈ Region.ready md ops listed → YieldsIf P ops Sw oi v a → Sw w → (∀ l ∈ late, listed.getD l false = false) →
  wpAnyT P md ops Q (LateOr late Sw) fuel (listed.setIfInBounds i true) (a.put oi.dst v) w → wpAnyT P md ops Q (LateOr late Sw) (fuel + 1) listed a w := by
 intro fuel
 induction fuel with
 | zero =>
  intro listed a w _ hr hy hS hnl H
  refine ⟨fun h => (by rw [h] at hr; cases hr), fun j hj => ?_⟩
  by_cases hji : j = i
  · subst hji; exact hy.wpOp hi hS ⟨.inr hS, H⟩
  · have := ready_mono hj hji
    rw [H.1] at this
    cases this
 | succ fuel ih =>
  intro listed a w hfree hr hy hS hnl H
  refine ⟨fun h => (by rw [h] at hr; cases hr), fun j hj => ?_⟩
  by_cases hji : j = i
  · subst hji; exact hy.wpOp hi hS ⟨.inr hS, H⟩
  · have h1 := H.2 j (ready_mono hj hji)
    obtain ⟨hjun, oj, hoj, hall⟩ := mem_ready.1 hj
    have hnot : ∀ e ∈ oj.after, Region.binds md e = true → e.on ≠ i := fun e he hb heq => by
     have h1 := hall e he hb
     have h0 := (mem_ready.1 hr).1
     rw [heq] at h1
     rcases Nat.lt_or_ge i listed.size with h' | h'
     · simp [h'] at h0 h1; rw [h0] at h1; cases h1
     · simp [Array.getElem?_eq_none h'] at h1
    have hjl : j ∉ late := fun hjl => by
     obtain ⟨e, he, hb, hon⟩ := hlate j hjl oj hoj
     exact hnot e he hb hon
    have h2 := wpOp_putIf hoj (hfree j oj hoj hji hjun hnot) (fun cs b => hsel i oi cs b hi) (fun cs b => hsel j oj cs b hoj) hQ hy h1
    have hfree' : ∀ k ok, ops[k]? = some ok → k ≠ i → (listed.setIfInBounds j true).getD k true = false →
     (∀ e ∈ ok.after, Region.binds md e = true → e.on ≠ i) → oi.apart ops ok = true := fun k ok hk hki hun hno => by
     refine hfree k ok hk hki ?_ hno
     by_cases hjk : j = k
     · subst hjk; exact hjun
     · rw [getD_set_ne true hjk] at hun; exact hun
    have hnl' : ∀ l ∈ late, (listed.setIfInBounds j true).getD l false = false := fun l hl => by
     rw [getD_set_ne false (show j ≠ l from fun e => hjl (by rw [e]; exact hl))]; exact hnl l hl
    refine wpOp_mono (fun a' w' h3 => ?_) h2
    have hSw : Sw w' := by
     rcases h3.2.1 with ⟨l, hl, h4⟩ | h4
     · rw [getD_set_ne false (show j ≠ l from fun e => hjl (by rw [e]; exact hl)), getD_set_ne false (show i ≠ l from fun e => hil (by rw [e]; exact hl)), hnl l hl] at h4
       cases h4
     · exact h4
    refine ⟨.inr hSw, ih (listed.setIfInBounds j true) a' w' hfree' (ready_mono hr (Ne.symm hji)) h3.1 hSw hnl' ?_⟩
    rw [Array.setIfInBounds_comm _ _ hji]
    exact h3.2.2
theorem wpAnyT_pure {late : List Nat} {Sw : World → Prop} {i : Nat} {oi : Oper} {v : Value} (hi : ops[i]? = some oi) (hsel : ∀ (j : Nat) (o : Oper) cs b, ops[j]? = some o → o.op ≠ .select cs b)
 (hQ : ∀ c a w, Q (.panic c) (a.put oi.dst v) w → Q (.panic c) a w) (hil : i ∉ late) :
 ∀ (fuel : Nat) (listed : Array Bool) (a : Act) (w : World),
  (∀ j oj, ops[j]? = some oj → j ≠ i → listed.getD j true = false → (∀ e ∈ oj.after, Region.binds md e = true → e.on ≠ i) → oi.apart ops oj = true) →
  i ∈ Region.ready md ops listed → YieldsIf P ops (fun _ => True) oi v a → LateOr late Sw listed w →
  wpAnyT P md ops Q (LateOr late Sw) fuel (listed.setIfInBounds i true) (a.put oi.dst v) w → wpAnyT P md ops Q (LateOr late Sw) (fuel + 1) listed a w := by
 have up : ∀ (listed : Array Bool) w, LateOr late Sw listed w → LateOr late Sw (listed.setIfInBounds i true) w := fun listed w h => by
  rcases h with ⟨l, hl, h4⟩ | h4
  · exact .inl ⟨l, hl, getD_set_true h4⟩
  · exact .inr h4
 intro fuel
 induction fuel with
 | zero =>
  intro listed a w _ hr hy hS H
  refine ⟨fun h => (by rw [h] at hr; cases hr), fun j hj => ?_⟩
  by_cases hji : j = i
  · subst hji; exact hy.wpOp hi trivial ⟨up _ _ hS, H⟩
  · have := ready_mono hj hji
    rw [H.1] at this
    cases this
 | succ fuel ih =>
  intro listed a w hfree hr hy hS H
  refine ⟨fun h => (by rw [h] at hr; cases hr), fun j hj => ?_⟩
  by_cases hji : j = i
  · subst hji; exact hy.wpOp hi trivial ⟨up _ _ hS, H⟩
  · have h1 := H.2 j (ready_mono hj hji)
    obtain ⟨hjun, oj, hoj, hall⟩ := mem_ready.1 hj
    have hnot : ∀ e ∈ oj.after, Region.binds md e = true → e.on ≠ i := fun e he hb heq => by
     have h1 := hall e he hb
     have h0 := (mem_ready.1 hr).1
     rw [heq] at h1
     rcases Nat.lt_or_ge i listed.size with h' | h'
     · simp [h'] at h0 h1; rw [h0] at h1; cases h1
     · simp [Array.getElem?_eq_none h'] at h1
    have h2 := wpOp_putIf hoj (hfree j oj hoj hji hjun hnot) (fun cs b => hsel i oi cs b hi) (fun cs b => hsel j oj cs b hoj) hQ hy h1
    have hfree' : ∀ k ok, ops[k]? = some ok → k ≠ i → (listed.setIfInBounds j true).getD k true = false →
     (∀ e ∈ ok.after, Region.binds md e = true → e.on ≠ i) → oi.apart ops ok = true := fun k ok hk hki hun hno => by
     refine hfree k ok hk hki ?_ hno
     by_cases hjk : j = k
     · subst hjk; exact hjun
     · rw [getD_set_ne true hjk] at hun; exact hun
    refine wpOp_mono (fun a' w' h3 => ?_) h2
    have hT : LateOr late Sw (listed.setIfInBounds j true) w' := by
     rcases h3.2.1 with ⟨l, hl, h4⟩ | h4
     · rw [Array.setIfInBounds_comm _ _ (Ne.symm hji), getD_set_ne false (show i ≠ l from fun e => hil (by rw [e]; exact hl))] at h4
       exact .inl ⟨l, hl, h4⟩
     · exact .inr h4
    refine ⟨hT, ih (listed.setIfInBounds j true) a' w' hfree' (ready_mono hr (Ne.symm hji)) h3.1 hT ?_⟩
    rw [Array.setIfInBounds_comm _ _ hji]
    exact h3.2.2
theorem wpAnyT_mono {T1 T2 : Array Bool → World → Prop} : ∀ (fuel : Nat) (listed : Array Bool) (a : Act) (w : World),
 (∀ listed' w', (∀ k, listed.getD k false = true → listed'.getD k false = true) → T1 listed' w' → T2 listed' w') → wpAnyT P md ops Q T1 fuel listed a w → wpAnyT P md ops Q T2 fuel listed a w
 | 0, _, _, _, _, h => h
 | fuel + 1, listed, _, _, hT, h => ⟨h.1, fun i hi => wpOp_mono (fun a' w' h' => ⟨hT _ _ (fun k hk => getD_set_true hk) h'.1, wpAnyT_mono fuel _ a' w' (fun l w' hl => hT l w' fun k hk => hl k (getD_set_true hk)) h'.2⟩) (h.2 i hi)⟩
def ordGo (S : Sig) (md : Region.Mode) (ops : Array Oper) (is : List (Ins S.toTyS)) (late fl : List Nat) : Nat → Array Bool → OT → Bool
 | m, listed, .nil => decide (m = 0) && (Region.ready md ops listed).isEmpty
 | m, listed, .go idx rest => decide (0 < m) && (Region.ready md ops listed).contains idx && decide (idx < listed.size) &&
  (if fl.contains idx then
   Region.free md ops listed idx && !late.contains idx && (match is[idx]? with
    | some i => i.op.isFloat && (!i.op.isLoad || late.all fun l => !listed.getD l false && (match ops[l]? with | some ol => ol.after.any fun e => Region.binds md e && e.on == idx | none => true))
    | none => false)
   else (match Region.ready md ops listed with | [k] => k == idx | _ => false)) &&
  ordGo S md ops is late fl (m - 1) (listed.setIfInBounds idx true) rest
 | m, listed, .alt i1 r1 i2 r2 => decide (0 < m) && !fl.contains i1 && !fl.contains i2 && decide (i1 < listed.size) && decide (i2 < listed.size) &&
  !(Region.ready md ops listed).isEmpty && (Region.ready md ops listed).all (fun k => k == i1 || k == i2) &&
  ordGo S md ops is late fl (m - 1) (listed.setIfInBounds i1 true) r1 && ordGo S md ops is late fl (m - 1) (listed.setIfInBounds i2 true) r2
 | m, listed, .alt3 i1 r1 i2 r2 i3 r3 => decide (0 < m) && !fl.contains i1 && !fl.contains i2 && !fl.contains i3 && decide (i1 < listed.size) && decide (i2 < listed.size) && decide (i3 < listed.size) &&
  !(Region.ready md ops listed).isEmpty && (Region.ready md ops listed).all (fun k => k == i1 || k == i2 || k == i3) &&
  ordGo S md ops is late fl (m - 1) (listed.setIfInBounds i1 true) r1 && ordGo S md ops is late fl (m - 1) (listed.setIfInBounds i2 true) r2 && ordGo S md ops is late fl (m - 1) (listed.setIfInBounds i3 true) r3
 | m, listed, .alt4 i1 r1 i2 r2 i3 r3 i4 r4 => decide (0 < m) && !fl.contains i1 && !fl.contains i2 && !fl.contains i3 && !fl.contains i4 && decide (i1 < listed.size) && decide (i2 < listed.size) && decide (i3 < listed.size) && decide (i4 < listed.size) &&
  !(Region.ready md ops listed).isEmpty && (Region.ready md ops listed).all (fun k => k == i1 || k == i2 || k == i3 || k == i4) &&
  ordGo S md ops is late fl (m - 1) (listed.setIfInBounds i1 true) r1 && ordGo S md ops is late fl (m - 1) (listed.setIfInBounds i2 true) r2 && ordGo S md ops is late fl (m - 1) (listed.setIfInBounds i3 true) r3 && ordGo S md ops is late fl (m - 1) (listed.setIfInBounds i4 true) r4
def NoPan (Q : Exit → Act → World → Prop) : Prop := ∀ c a w, ¬ Q (.panic c) a w
def Prot (M : List Id) (w : World) (ok : Nat → Prop) (ρ : Id → Where) (w' : World) : Prop := ∀ b, (ok b ∨ ∃ id n s, id ∉ M ∧ ρ id = .blk b n s) → w'.heap[b]? = w.heap[b]?
theorem py_float {i : IOp S.toTyS} (hf : i.isFloat = true) (hl : i.isLoad = false) (hc : chkI S P fid o.op i = true) (g : Gam S fid X σ a w ok ρ) (hk : i.vc (Spec S P fid) σ K) : PY S fid P a w ok ρ o σ K := by
 cases i <;> simp [IOp.isFloat, IOp.isLoad] at hf hl
 case mv x => exact py_mv hc g hk
 case pick c x y => exact py_pick hc g hk
 case build z ps => exact py_build hc g hk
 case fa p off => exact py_fa hc g hk
 case fld x off n agg => exact py_fld hc g hk
 case nilck x => exact py_nilck hc g hk
 case idxA x i sz => exact py_idxA hc g hk
 case idxArr x i sz ln => exact py_idxArr hc g hk
 case idxS x i => exact py_idxS hc g hk
 case idxG x i ln => exact py_idxG hc g hk
 case ext x i => exact py_ext hc g hk
 case bin op ty x y => exact py_bin hc g hk
 case un op x => exact py_un hc g hk
 case conv k x => exact py_conv hc g hk
 case len st x => exact py_len hc g hk
 case slc sz x lo hi => exact py_slc hc g hk
 case mkf f caps => exact py_mkf hc g hk
 case mn xs => exact py_mn hc g hk
 case mx xs => exact py_mx hc g hk
 case idxC x i sz ln => exact py_idxC hc g hk
 case idxR x i sz ln => exact py_idxR hc g hk
 case isnil ne x => exact py_isnil hc g hk
 case mki => exact py_mki hc g hk
 case mke x => exact py_mke hc g hk
 case eqe ne x y => exact py_eqe hc g hk
theorem snd_alone {n : Nat} (hXn : X.n = n) {M : List Id} {late fl : List Nat}
 {j : Nat} {i : Ins S.toTyS} (ho : ops[j]? = some o) (hchk : chkIns S P fid n ops o i = true) (hfl : fl.contains j = false) {listed : Array Bool} (hlt : j < listed.size)
 (g : Gam S fid X σ a w ok ρ) {Kk : St S.toTyS → Prop} {m : Nat} (hk : i.dvc (Spec S P fid) M late fl j σ Kk)
 (ih : ∀ σ' a' w' ok' ρ', Gam S fid X σ' a' w' ok' ρ' → Kk σ' → wpAnyT P md ops Q (LateOr late (Prot M w' ok' ρ')) m (listed.setIfInBounds j true) a' w') :
 wpOp P ops Q j (fun a' w' => LateOr late (Prot M w ok ρ) (listed.setIfInBounds j true) w' ∧ wpAnyT P md ops Q (LateOr late (Prot M w ok ρ)) m (listed.setIfInBounds j true) a' w') a w := by
 simp only [chkIns, Bool.and_eq_true, decide_eq_true_eq] at hchk
 obtain ⟨⟨⟨h1, h2⟩, h3⟩, h4⟩ := hchk
 rw [← hXn] at h2
 have h0 := wanted_of h3 g
 unfold wpOp
 simp only [ho]
 have hset : (listed.setIfInBounds j true).getD j false = true := by simp [hlt]
 have skip : ∀ (hw : Region.wanted o (yielded ops a.tmps) = false), Kk (setO σ i.dst (.tup [])) →
  (LateOr late (Prot M w ok ρ) (listed.setIfInBounds j true) w ∧ wpAnyT P md ops Q (LateOr late (Prot M w ok ρ)) m (listed.setIfInBounds j true) (a.put o.dst undef) w) := fun _ hk' =>
  ⟨.inr (fun b _ => rfl), ih _ _ _ _ _ (put_dst h1 h2 g (d := .tup []) undef_rel) hk'⟩
 have lateRun : j ∈ late → i.op.vc (Spec S P fid) σ (fun d σ' => Kk (setO σ' i.dst d)) →
  o.wp P a w (fun a' w' => LateOr late (Prot M w ok ρ) (listed.setIfInBounds j true) w' ∧ wpAnyT P md ops Q (LateOr late (Prot M w ok ρ)) m (listed.setIfInBounds j true) a' w') Q := fun hjl hk' =>
  snd_op (T := fun _ => True) i.op (fun _ => trivial) h4 g hk' (fun v w' d σ' ok' ρ' hK hg hd _ =>
   ⟨.inl ⟨j, hjl, hset⟩, wpAnyT_mono m _ _ _ (fun l w1 hl _ => .inl ⟨j, hjl, hl j hset⟩) (ih _ _ _ _ _ (put_dst h1 h2 hg hd) hK)⟩)
 have chainRun : i.op.tvc (Spec S P fid) M σ (fun d σ' => Kk (setO σ' i.dst d)) →
  o.wp P a w (fun a' w' => LateOr late (Prot M w ok ρ) (listed.setIfInBounds j true) w' ∧ wpAnyT P md ops Q (LateOr late (Prot M w ok ρ)) m (listed.setIfInBounds j true) a' w') Q := fun hk' =>
  snd_opT i.op h4 g hk' (fun v w' d σ' ok' ρ' hK hg hd hfr => by
   obtain ⟨f1, f2, f3, f4⟩ := hfr
   have hkeep : Prot M w ok ρ w' := fun b hb => by
    rcases hb with hb | ⟨id, n1, s1, hid, hb⟩
    · exact f2 b (g.mem.okl b hb) (.inl hb)
    · refine f2 b (g.mem.lt hb) (.inr fun id' n' s' hid' hb' => ?_)
      have := g.mem.inj _ _ _ _ _ _ _ hb hb'
      exact hid (this ▸ hid')
   refine ⟨.inr hkeep, wpAnyT_mono m _ _ _ (fun l w1 _ h => ?_) (ih _ _ _ _ _ (put_dst h1 h2 hg hd) hK)⟩
   rcases h with h | h
   · exact .inl h
   · refine .inr (fun b hb => ?_)
     rw [← hkeep b hb]
     refine h b ?_
     rcases hb with hb | ⟨id, n1, s1, hid, hb⟩
     · exact .inl (f3 b hb)
     · exact .inr ⟨id, n1, s1, hid, f4 id b n1 s1 hid hb⟩)
 have body : (if late.contains j = true then i.op.vc (Spec S P fid) σ (fun d σ' => Kk (setO σ' i.dst d)) else i.op.tvc (Spec S P fid) M σ (fun d σ' => Kk (setO σ' i.dst d))) →
  o.wp P a w (fun a' w' => LateOr late (Prot M w ok ρ) (listed.setIfInBounds j true) w' ∧ wpAnyT P md ops Q (LateOr late (Prot M w ok ρ)) m (listed.setIfInBounds j true) a' w') Q := fun hb => by
  by_cases hjl : late.contains j = true
  · rw [if_pos hjl] at hb; exact lateRun (by simpa using hjl) hb
  · rw [if_neg hjl] at hb; exact chainRun hb
 simp only [Ins.dvc, hfl, Bool.false_eq_true, if_false] at hk
 rcases h0 with ⟨hgu, hw⟩ | ⟨k, want, hgu, hw, hw0⟩
 · rw [hgu] at hk
   rw [if_pos hw]
   exact .inl (body hk)
 · rw [hgu] at hk
   simp only at hk
   split at hk
   case h_3 => exact hk.elim
   case h_2 hb =>
    rw [hw0 hb, if_neg (by decide)]
    exact skip (hw0 hb) hk
   rename_i b hb
   rw [hw b hb]
   by_cases hbw : b = want
   · rw [if_pos (by simpa using hbw)]
     exact .inl (body ((gsel_iff.1 hk).1 hbw))
   · rw [if_neg (by simpa using hbw)]
     exact skip (by rw [hw b hb]; simpa using hbw) ((gsel_iff.1 hk).2 hbw)
theorem snd_ord {n : Nat} (hXn : X.n = n) {is : List (Ins S.toTyS)} {M : List Id} {late fl : List Nat} (hns : Region.noSelect ops = true) (hQp : NoPan Q)
 (hch : ∀ (j : Nat) i, is[j]? = some i → ∃ o, ops[j]? = some o ∧ chkIns S P fid n ops o i = true) :
 ∀ (ord : OT) (fuel : Nat) (listed : Array Bool) (σ : St S.toTyS) (a : Act) (w : World) (ok : Nat → Prop) (ρ : Id → Where) (K : St S.toTyS → Prop),
  ordGo S md ops is late fl fuel listed ord = true → Gam S fid X σ a w ok ρ → vcOrd (Spec S P fid) M late fl is ord σ K →
  (∀ σ' a' w' ok' ρ', K σ' → Gam S fid X σ' a' w' ok' ρ' → Q .normal a' w') →
  wpAnyT P md ops Q (LateOr late (Prot M w ok ρ)) fuel listed a w
 | .nil, fuel, listed, σ, a, w, ok, ρ, K, hg, g, hk, hQ => by
  simp only [ordGo, Bool.and_eq_true, decide_eq_true_eq, List.isEmpty_iff] at hg
  obtain ⟨rfl, hg⟩ := hg
  exact ⟨hg, hQ σ a w ok ρ hk g⟩
 | .go idx rest, fuel, listed, σ, a, w, ok, ρ, K, hg, g, hk, hQ => by
  simp only [ordGo, Bool.and_eq_true, decide_eq_true_eq] at hg
  obtain ⟨⟨⟨⟨hm, hready⟩, hlt⟩, hcase⟩, hrest⟩ := hg
  obtain ⟨fuel, rfl⟩ : ∃ f, fuel = f + 1 := ⟨fuel - 1, by omega⟩
  simp only [Nat.add_sub_cancel] at hrest
  simp only [vcOrd] at hk
  split at hk
  case h_2 => exact hk.elim
  rename_i i hi
  obtain ⟨o, ho, hchk⟩ := hch idx i hi
  have hchk' := hchk
  simp only [chkIns, Bool.and_eq_true, decide_eq_true_eq] at hchk
  obtain ⟨⟨⟨h1, h2⟩, h3⟩, h4⟩ := hchk
  rw [← hXn] at h2
  have ih := fun σ' a' w' ok' ρ' (hg' : Gam S fid X σ' a' w' ok' ρ') (hk' : vcOrd (Spec S P fid) M late fl is rest σ' K) =>
   snd_ord hXn hns hQp hch rest fuel (listed.setIfInBounds idx true) σ' a' w' ok' ρ' K hrest hg' hk' hQ
  have hready' : idx ∈ Region.ready md ops listed := by simpa using hready
  have hsel := Region.noSelect_spec hns
  have hQ0 : ∀ (v : Value) c a w, Q (.panic c) (a.put o.dst v) w → Q (.panic c) a w := fun v c a w h => absurd h (hQp c _ w)
  have h0 := wanted_of h3 g
  cases hfl : fl.contains idx with
  | true =>
   simp only [hfl, if_true, Bool.and_eq_true, Bool.not_eq_true', hi] at hcase
   obtain ⟨⟨hfree, hnl⟩, hflo, hload⟩ := hcase
   have hil : idx ∉ late := by simpa using hnl
   have hfr := Region.free_spec ho hfree
   have skip : ∀ (hw : Region.wanted o (yielded ops a.tmps) = false), vcOrd (Spec S P fid) M late fl is rest (setO σ i.dst (.tup [])) K → wpAnyT P md ops Q (LateOr late (Prot M w ok ρ)) (fuel + 1) listed a w := by
    intro hw hk'
    refine wpAnyT_pure (v := undef) ho hsel (hQ0 undef) hil fuel listed a w hfr hready' (.inr ⟨hw, rfl⟩) (.inr (fun b _ => rfl)) ?_
    exact ih _ _ _ _ _ (put_dst h1 h2 g (d := .tup []) undef_rel) hk'
   have run : ∀ (hw : Region.wanted o (yielded ops a.tmps) = true), chk (loadOk M σ i.op) (i.op.vc (Spec S P fid) σ (fun d σ' => vcOrd (Spec S P fid) M late fl is rest (setO σ' i.dst d) K)) → wpAnyT P md ops Q (LateOr late (Prot M w ok ρ)) (fuel + 1) listed a w := by
    intro hw hck
    obtain ⟨hlo, hk'⟩ := chk_iff.1 hck
    cases hil2 : i.op.isLoad with
    | false =>
     obtain ⟨v, d, hv1, hv2, hv3⟩ := py_float hflo hil2 h4 g hk'
     refine wpAnyT_pure (v := v) ho hsel (hQ0 v) hil fuel listed a w hfr hready' (.inl ⟨hw, fun w' _ => hv1 w'⟩) (.inr (fun b _ => rfl)) ?_
     exact ih _ _ _ _ _ (put_dst h1 h2 g hv3) hv2
    | true =>
     have hop : ∃ p n agg, i.op = .load p n agg := by
      cases hio : i.op <;> rw [hio] at hil2 <;> simp [IOp.isLoad] at hil2
      exact ⟨_, _, _, rfl⟩
     obtain ⟨p, nn, agg, hop⟩ := hop
     rw [hop] at h4 hk' hlo
     obtain ⟨v, d, b, hv1, hv2, hv3, hv4⟩ := py_load h4 g hk'
     simp only [hil2, Bool.not_true, Bool.false_or, List.all_eq_true, Bool.and_eq_true, Bool.not_eq_true'] at hload
     refine wpAnyT_load (v := v) ho hsel (hQ0 v) hil (fun l hl ol hol => ?_) fuel listed a w hfr hready' (.inl ⟨hw, fun w' hS => hv1 w' (hS b ?_)⟩) (fun b _ => rfl) (fun l hl => (hload l hl).1) ?_
     · have := (hload l hl).2
       rw [hol] at this
       simp only [Array.any_eq_true', Bool.and_eq_true, beq_iff_eq] at this
       obtain ⟨e, he, hb, hon⟩ := this
       exact ⟨e, he, hb, hon⟩
     · rcases hv4 with h5 | ⟨id, e, o1, n1, s1, hq, hρ⟩
       · exact .inl h5
       · refine .inr ⟨id, n1, s1, ?_, hρ⟩
         simp only [loadOk, hq] at hlo
         simpa using hlo
     · exact ih _ _ _ _ _ (put_dst h1 h2 g hv3) hv2
   simp only [Ins.dvc, hfl, if_true] at hk
   rcases h0 with ⟨hgu, hw⟩ | ⟨k, want, hgu, hw, hw0⟩
   · rw [hgu] at hk
     exact run hw hk
   · rw [hgu] at hk
     simp only at hk
     split at hk
     case h_3 => exact hk.elim
     case h_2 hb => exact skip (hw0 hb) hk
     rename_i b hb
     by_cases hbw : b = want
     · exact run (by rw [hw b hb]; simpa using hbw) ((gsel_iff.1 hk).1 hbw)
     · exact skip (by rw [hw b hb]; simpa using hbw) ((gsel_iff.1 hk).2 hbw)
  | false =>
   simp only [hfl, Bool.false_eq_true, if_false] at hcase
   have hrs : Region.ready md ops listed = [idx] := by
    split at hcase
    · rename_i k hk'
      rw [hk']
      simp at hcase
      rw [hcase]
    · cases hcase
   refine ⟨fun h => (by rw [h] at hrs; cases hrs), fun j hj => ?_⟩
   rw [hrs] at hj
   simp only [List.mem_singleton] at hj
   subst hj
   exact snd_alone hXn ho hchk' hfl hlt g hk ih
 | .alt i1 r1 i2 r2, fuel, listed, σ, a, w, ok, ρ, K, hg, g, hk, hQ => by
  simp only [ordGo, Bool.and_eq_true, decide_eq_true_eq, Bool.not_eq_true', List.all_eq_true, Bool.or_eq_true, beq_iff_eq, List.isEmpty_eq_false_iff] at hg
  obtain ⟨⟨⟨⟨⟨⟨⟨⟨hm, hf1⟩, hf2⟩, hl1⟩, hl2⟩, hne⟩, hall⟩, hr1⟩, hr2⟩ := hg
  obtain ⟨fuel, rfl⟩ : ∃ f, fuel = f + 1 := ⟨fuel - 1, by omega⟩
  simp only [Nat.add_sub_cancel] at hr1 hr2
  simp only [vcOrd] at hk
  obtain ⟨hk1, hk2⟩ := hk
  split at hk1
  case h_2 => exact hk1.elim
  rename_i i hi
  split at hk2
  case h_2 => exact hk2.elim
  rename_i i' hi'
  obtain ⟨o1, ho1, hchk1⟩ := hch i1 i hi
  obtain ⟨o2, ho2, hchk2⟩ := hch i2 i' hi'
  refine ⟨fun e => absurd e hne, fun j hj => ?_⟩
  rcases hall j hj with rfl | rfl
  · exact snd_alone hXn ho1 hchk1 hf1 hl1 g hk1 fun σ' a' w' ok' ρ' hg' hk' => snd_ord hXn hns hQp hch r1 fuel _ σ' a' w' ok' ρ' K hr1 hg' hk' hQ
  · exact snd_alone hXn ho2 hchk2 hf2 hl2 g hk2 fun σ' a' w' ok' ρ' hg' hk' => snd_ord hXn hns hQp hch r2 fuel _ σ' a' w' ok' ρ' K hr2 hg' hk' hQ
 | .alt3 i1 r1 i2 r2 i3 r3, fuel, listed, σ, a, w, ok, ρ, K, hg, g, hk, hQ => by
  simp only [ordGo, Bool.and_eq_true, decide_eq_true_eq, Bool.not_eq_true', List.all_eq_true, Bool.or_eq_true, beq_iff_eq, List.isEmpty_eq_false_iff] at hg
  obtain ⟨⟨⟨⟨⟨⟨⟨⟨⟨⟨⟨hm, hf1⟩, hf2⟩, hf3⟩, hl1⟩, hl2⟩, hl3⟩, hne⟩, hall⟩, hr1⟩, hr2⟩, hr3⟩ := hg
  obtain ⟨fuel, rfl⟩ : ∃ f, fuel = f + 1 := ⟨fuel - 1, by omega⟩
  simp only [Nat.add_sub_cancel] at hr1 hr2 hr3
  simp only [vcOrd] at hk
  obtain ⟨hk1, hk2, hk3⟩ := hk
  split at hk1
  case h_2 => exact hk1.elim
  rename_i q1 hi1
  obtain ⟨o1, ho1, hchk1⟩ := hch i1 q1 hi1
  split at hk2
  case h_2 => exact hk2.elim
  rename_i q2 hi2
  obtain ⟨o2, ho2, hchk2⟩ := hch i2 q2 hi2
  split at hk3
  case h_2 => exact hk3.elim
  rename_i q3 hi3
  obtain ⟨o3, ho3, hchk3⟩ := hch i3 q3 hi3
  refine ⟨fun e => absurd e hne, fun j hj => ?_⟩
  rcases hall j hj with (rfl | rfl) | rfl
  · exact snd_alone hXn ho1 hchk1 hf1 hl1 g hk1 fun σ' a' w' ok' ρ' hg' hk' => snd_ord hXn hns hQp hch r1 fuel _ σ' a' w' ok' ρ' K hr1 hg' hk' hQ
  · exact snd_alone hXn ho2 hchk2 hf2 hl2 g hk2 fun σ' a' w' ok' ρ' hg' hk' => snd_ord hXn hns hQp hch r2 fuel _ σ' a' w' ok' ρ' K hr2 hg' hk' hQ
  · exact snd_alone hXn ho3 hchk3 hf3 hl3 g hk3 fun σ' a' w' ok' ρ' hg' hk' => snd_ord hXn hns hQp hch r3 fuel _ σ' a' w' ok' ρ' K hr3 hg' hk' hQ
 | .alt4 i1 r1 i2 r2 i3 r3 i4 r4, fuel, listed, σ, a, w, ok, ρ, K, hg, g, hk, hQ => by
  simp only [ordGo, Bool.and_eq_true, decide_eq_true_eq, Bool.not_eq_true', List.all_eq_true, Bool.or_eq_true, beq_iff_eq, List.isEmpty_eq_false_iff] at hg
  obtain ⟨⟨⟨⟨⟨⟨⟨⟨⟨⟨⟨⟨⟨⟨hm, hf1⟩, hf2⟩, hf3⟩, hf4⟩, hl1⟩, hl2⟩, hl3⟩, hl4⟩, hne⟩, hall⟩, hr1⟩, hr2⟩, hr3⟩, hr4⟩ := hg
  obtain ⟨fuel, rfl⟩ : ∃ f, fuel = f + 1 := ⟨fuel - 1, by omega⟩
  simp only [Nat.add_sub_cancel] at hr1 hr2 hr3 hr4
  simp only [vcOrd] at hk
  obtain ⟨hk1, hk2, hk3, hk4⟩ := hk
  split at hk1
  case h_2 => exact hk1.elim
  rename_i q1 hi1
  obtain ⟨o1, ho1, hchk1⟩ := hch i1 q1 hi1
  split at hk2
  case h_2 => exact hk2.elim
  rename_i q2 hi2
  obtain ⟨o2, ho2, hchk2⟩ := hch i2 q2 hi2
  split at hk3
  case h_2 => exact hk3.elim
  rename_i q3 hi3
  obtain ⟨o3, ho3, hchk3⟩ := hch i3 q3 hi3
  split at hk4
  case h_2 => exact hk4.elim
  rename_i q4 hi4
  obtain ⟨o4, ho4, hchk4⟩ := hch i4 q4 hi4
  refine ⟨fun e => absurd e hne, fun j hj => ?_⟩
  rcases hall j hj with ((rfl | rfl) | rfl) | rfl
  · exact snd_alone hXn ho1 hchk1 hf1 hl1 g hk1 fun σ' a' w' ok' ρ' hg' hk' => snd_ord hXn hns hQp hch r1 fuel _ σ' a' w' ok' ρ' K hr1 hg' hk' hQ
  · exact snd_alone hXn ho2 hchk2 hf2 hl2 g hk2 fun σ' a' w' ok' ρ' hg' hk' => snd_ord hXn hns hQp hch r2 fuel _ σ' a' w' ok' ρ' K hr2 hg' hk' hQ
  · exact snd_alone hXn ho3 hchk3 hf3 hl3 g hk3 fun σ' a' w' ok' ρ' hg' hk' => snd_ord hXn hns hQp hch r3 fuel _ σ' a' w' ok' ρ' K hr3 hg' hk' hQ
  · exact snd_alone hXn ho4 hchk4 hf4 hl4 g hk4 fun σ' a' w' ok' ρ' hg' hk' => snd_ord hXn hns hQp hch r4 fuel _ σ' a' w' ok' ρ' K hr4 hg' hk' hQ
end drawn
end Go.Clap
