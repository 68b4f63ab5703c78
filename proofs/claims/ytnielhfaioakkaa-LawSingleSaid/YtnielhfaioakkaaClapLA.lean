/- LawSingle's law: true at every input. -/
import Derived.Test.YtnielhfaioakkaaClapL9
set_option linter.unusedVariables false
set_option linter.unusedSimpArgs false
namespace Go.Clap
theorem cmpB_self : ∀ (l : List UInt8), Lib.compareBytes l l = 0
  | [] => rfl
  | a :: as => by
    unfold Lib.compareBytes
    rw [if_neg (UInt8.lt_irrefl a), if_neg (UInt8.lt_irrefl a)]
    exact cmpB_self as
theorem compare_self (x : Int) : f38_Compare x x = some 0 := by
  have h : f59_isNaN x = some false := by
    show cond (x != x) (some true) (some false) = some false
    have : (x != x) = false := by simp
    rw [this]; rfl
  have h1 : decide (x < x) = false := by simp
  show (f59_isNaN x).bind (fun q3 => (f59_isNaN x).bind fun q4 => cond q3 (cond q4 (some 0) (some (-1))) (cond q4 (some 1) (cond (decide (x < x)) (some (-1)) (cond (decide (x > x)) (some 1) (some 0))))) = some 0
  rw [h]
  show cond (decide (x < x)) (some (-1)) (cond (decide (x > x)) (some 1) (some 0)) = some (0 : Int)
  have h2 : decide (x > x) = false := h1
  rw [h1]
  rfl
theorem compareS_self (s : ByteArray) : f54_Compare s s = some 0 := by
  show some (Lib.compareBytes s.data.toList s.data.toList) = some 0
  rw [cmpB_self]
theorem cmp_self : ∀ (d : Nat) (v : V) (h : Dv d v) (n : Nat), sat (f34_Cmp (n + 3 * d) v v) fun r => r = 0
  | 0, v, h, n => by cases h
  | d + 1, v, h, n => by
    cases h with
    | mk k x s fs h =>
    have e : n + 3 * (d + 1) = n + 3 * d + 1 + 1 + 1 := by omega
    rw [e]
    show sat (b34_Cmp (b55_CompareFunc (b56_1 (f34_Cmp (n + 3 * d)))) (.mk k x s fs) (.mk k x s fs)) _
    have hL : ∀ (l : FV) (j : Nat), (∀ i, l[i]? = fs[j + i]?) → (∀ y, y ∈ l → y ∈ fs) → sat (f55_CompareFunc_L2 (b56_1 (f34_Cmp (n + 3 * d))) fs l j) fun o => o = .inr () := by
      intro l
      induction l with
      | nil => intro j _ _; exact sat_mk rfl
      | cons y tl ih =>
        intro j hj hm
        have h0 : fs[j]? = some y := (hj 0).symm
        have hlt : j < fs.length := (List.getElem?_eq_some_iff.1 h0).1
        obtain ⟨a, ⟨k1, n1, s1, f1⟩⟩ := y
        refine i_cond (fun c => absurd (by simpa using c) (show ¬ fs.length ≤ j by omega)) (fun _ => i_getL (by omega) (by omega) fun u hu hu2 => ?_)
        have hu3 : fs[j]? = some u := by simpa using hu2
        obtain rfl := Option.some.inj (h0.symm.trans hu3)
        refine i_call (Q := fun r => r = 0) ?_ fun r hr => ?_
        · show sat ((f54_Compare a a).bind fun v11 => (f34_Cmp (n + 3 * d) (.mk k1 n1 s1 f1) (.mk k1 n1 s1 f1)).bind fun v12 => (f53_Or [v11, v12]).bind fun v13 => some v13) _
          refine i_call (Q := fun r => r = 0) ⟨_, compareS_self a, rfl⟩ fun r hr => i_call (cmp_self d _ (h _ (hm _ List.mem_cons_self)) n) fun r2 hr2 => ?_
          subst hr hr2
          exact i_call (Q := fun r => r = 0) ⟨0, rfl, rfl⟩ fun r hr => sat_mk hr
        · subst hr
          refine i_cond (fun c => by cases c) (fun _ => ih (j + 1) (fun i => ?_) (fun y hy => hm y (List.mem_cons_of_mem _ hy)))
          have := hj (i + 1)
          rw [List.getElem?_cons_succ] at this
          rw [this]
          congr 1
          omega
    have hC : sat (b55_CompareFunc (b56_1 (f34_Cmp (n + 3 * d))) fs fs) fun r => r = 0 := by
      refine i_sbind (sat_mono (hL fs 0 (fun i => by rw [Nat.zero_add]) fun y hy => hy) ?_)
      rintro _ rfl
      exact i_cond (fun c => by simp at c) (fun _ => sat_mk rfl)
    refine i_sbind (sat_mono (R := fun o => ∃ a : Int, o = .inr (a, a)) ?_ ?_)
    · refine i_cond (fun _ => ?_) (fun _ => sat_mk ⟨_, rfl⟩)
      have ho : sat (f52_order x) fun _ => True := i_cond (fun _ => sat_mk trivial) (fun _ => sat_mk trivial)
      obtain ⟨a, ha, _⟩ := ho
      exact i_call (Q := fun r => r = a) ⟨_, ha, rfl⟩ fun r hr => i_call (Q := fun r => r = a) ⟨_, ha, rfl⟩ fun r2 hr2 => by subst hr hr2; exact sat_mk ⟨_, rfl⟩
    rintro _ ⟨a, rfl⟩
    refine i_call (Q := fun r => r = 0) ⟨_, compare_self k, rfl⟩ fun r1 h1 => i_call (Q := fun r => r = 0) ⟨_, compare_self a, rfl⟩ fun r2 h2 => i_call (Q := fun r => r = 0) ⟨_, compareS_self s, rfl⟩ fun r3 h3 => ?_
    subst h1 h2 h3
    refine i_call (Q := fun r => r = 0) ⟨0, rfl, rfl⟩ fun r hr => ?_
    subst hr
    exact i_cond (fun c => by cases c) (fun _ => i_call hC fun r hr => sat_mk hr)
theorem same_self (d : Nat) (v : V) (h : Dv d v) (n : Nat) (hn : 3 * d ≤ n) : sat (f11_Same n v v) fun q => q = true := by
  have := cmp_self d v h (n - 3 * d)
  have e : n - 3 * d + 3 * d = n := by omega
  rw [e] at this
  obtain ⟨k, x, s, f⟩ := v
  exact i_call this fun r hr => by subst hr; exact sat_mk rfl
theorem sch_nil : Sch [] := ⟨[], [], [], .inl rfl, .inl rfl, .inl rfl, rfl⟩
theorem nil_digit : sat (f24_Single 400 [] (.mk 2 e0 0 9 e0 [])) fun q => q = false := by
  refine i_call (sg_digit sch_nil 89 40) fun q hq => ?_
  cases q
  · exact sat_mk rfl
  · exact (hq rfl).elim
theorem nil_unit : sat (f24_Single 400 [] (.mk 0 e0 0 0 e0 [])) fun q => q = true := by
  have h : f24_Single 400 [] (.mk 0 e0 0 0 e0 []) = some true := isS_eq (by kernel_rfl)
  exact ⟨_, h, rfl⟩
theorem law_true (l1 l2 l3 l4 : List Int) : sat (f6_LawSingle 400 l1 l2 l3 l4) fun q => q = true := by
  refine i_call (Schema_tot l1) fun s hs => ?_
  have hl := hs.length
  refine i_call (Type_tot s (by omega) 400 (by omega) l2) fun t hg => ?_
  have hV : ∀ l, sat (f23_Value 400 s t l) fun r => ∀ v, Cst s 3 t v → r = v := by
    intro l
    obtain ⟨k, m, lo, hi, p, ps⟩ := t
    by_cases hc : ∃ v, Cst s 3 (.mk k m lo hi p ps) v
    · obtain ⟨v, hv⟩ := hc
      refine i_call (hv.2 0 (by omega) (by omega) 400 (by omega) l) fun r hr => ?_
      obtain ⟨⟨k1, n1, s1, f1⟩, st⟩ := r
      obtain rfl : V.mk k1 n1 s1 f1 = v := hr
      refine sat_mk fun w hw => ?_
      obtain ⟨r2, h1, h2⟩ := hv.2 0 (by omega) (by omega) 400 (by omega) l
      obtain ⟨r3, h3, h4⟩ := hw.2 0 (by omega) (by omega) 400 (by omega) l
      obtain rfl := Option.some.inj (h1.symm.trans h3)
      exact h2.symm.trans h4
    · refine i_call (val_tot hs hg 0 (by omega) (by omega) 400 (by omega) l) fun r hr => ?_
      obtain ⟨⟨k1, n1, s1, f1⟩, st⟩ := r
      exact sat_mk fun w hw => absurd ⟨w, hw⟩ hc
  have hS : sat (f24_Single 400 s t) fun q => q = true → ∃ v, Cst s 3 t v := by
    have := single_good hs hg (by omega) 85 40
    obtain ⟨k, m, lo, hi, p, ps⟩ := t
    exact i_call this fun q hq => sat_mk hq
  obtain ⟨k, m, lo, hi, p, ps⟩ := t
  refine i_sbind (i_call (hV l3) fun v hv => ?_)
  obtain ⟨k1, n1, s1, f1⟩ := v
  refine i_call (hV l4) fun w hw => ?_
  obtain ⟨k2, n2, s2, f2⟩ := w
  refine sat_mk ?_
  refine i_call nil_unit fun q hq => ?_
  subst hq
  refine i_cond (fun _ => ?_) (fun h => by cases h)
  refine i_call (Q := fun r => r = .mk 2 e0 0 9 e0 []) ⟨_, rfl, rfl⟩ fun r hr => ?_
  subst hr
  refine i_call nil_digit fun q hq => ?_
  subst hq
  refine i_cond (fun h => by cases h) (fun _ => ?_)
  refine i_call hS fun q hq => i_cond (fun h => ?_) (fun _ => sat_mk rfl)
  obtain ⟨c, hc⟩ := hq h
  have e1 := hv c hc
  have e2 := hw c hc
  rw [e1, e2]
  exact i_call (same_self 4 c hc.1 400 (by omega)) fun q hq => by subst hq; exact sat_mk rfl
end Go.Clap
