/- The checks of the small code against the loaded functions. -/
import Derived.Test.YtnjgakngmbbmfaaGreatDoorClapK3
set_option linter.unusedVariables false
set_option linter.unusedSimpArgs false
set_option maxRecDepth 100000
namespace Go.Clap
open Go.IntKind (wrap)
def Fw (s : BA) (v v' : Int) : Prop := v ≤ v' ∧ v' ≤ s.size + 1
structure At (s : BA) (v : Int) : Prop where
 sz : s.size ≤ 4000
 lo : 0 ≤ v
 hi : v ≤ s.size + 1
variable {s : BA} {v : Int} {q : Bool}
theorem At.fw (h : At s v) : Fw s v v := ⟨by omega, h.hi⟩
theorem At.on (h : At s v) {v' : Int} (k : Fw s v v') : At s v' := ⟨h.sz, by have := h.lo; have := k.1; omega, k.2⟩
theorem Fw.trans {a b c : Int} (h : Fw s a b) (k : Fw s b c) : Fw s a c := ⟨by have := h.1; have := k.1; omega, k.2⟩
theorem At.peek (h : At s v) (q : Bool) : sat (f1013_peek s v q) fun r => r.2 = true → Wrd s v r.1 := peek_s h.lo h.hi h.sz
theorem At.next (h : At s v) {w : BA} (hw : Wrd s v w) : wrap .i64 (v + (wrap .i64 ((w.size : Int) + 1))) = v + w.size + 1 := by
 have h1 := hw.1; have h2 := h.sz; have h3 := h.lo
 rw [wrap64 (x := (w.size : Int) + 1) (by omega) (by omega), wrap64 (by omega) (by omega)]; omega
theorem At.nfw (h : At s v) {w : BA} (hw : Wrd s v w) : Fw s v (v + w.size + 1) := ⟨by omega, by have := hw.1; omega⟩
theorem sat_mk_of' {α : Type} {m : Option α} {x : α} {R : α → Prop} (h : m = some x) (k : R x) : sat m R := ⟨x, h, k⟩
theorem any_s (h : At s v) : sat (f1089_any s v q) fun r => Fw s v r.2.1 ∧ (r.2.2 = true → q = true ∧ RdW s v [BL r.1] r.2.1 ∧ r.1 ≠ ⟨#[]⟩) := by
 unfold f1089_any
 refine i_call (Q := fun r : BA × Int × Bool => Fw s v r.2.1 ∧ (r.2.2 = true → q = true ∧ RdW s v [BL r.1] r.2.1 ∧ r.1 ≠ ⟨#[]⟩)) ?_ fun r hr => sat_mk hr
 unfold f1012a_take
 have no : sat (some ((⟨#[]⟩ : BA), v, false)) fun r : BA × Int × Bool => Fw s v r.2.1 ∧ (r.2.2 = true → q = true ∧ RdW s v [BL r.1] r.2.1 ∧ r.1 ≠ ⟨#[]⟩) := sat_mk ⟨h.fw, fun h => by cases h⟩
 refine i_cond (fun hq => i_call (h.peek true) fun r hr => ?_) fun _ => no
 obtain ⟨w, t⟩ := r
 refine i_cond (fun ht => ?_) fun _ => no
 have hw : Wrd s v w := hr ht
 refine i_call (Q := fun b => b = true → w ≠ ⟨#[]⟩) ?_ fun b hb => i_cond (fun hb' => ?_) fun _ => no
 · unfold f1090_1
   refine i_cond (fun hne => ?_) fun _ => sat_mk (fun h => by cases h)
   have hne : w ≠ ⟨#[]⟩ := k_ne (by simpa using hne)
   exact i_cond (fun _ => i_cond (fun _ => sat_mk fun _ => hne) fun _ => sat_mk fun _ => hne) fun _ => sat_mk fun _ => hne
 · rw [h.next hw]
   exact sat_mk ⟨h.nfw hw, fun _ => ⟨hq, hw.rd, hb hb'⟩⟩
theorem itoa_s {n : Int} (h : I64 n) : ∃ w, f1022_Itoa n = some w := by
 unfold f1022_Itoa grdP
 exact ⟨_, if_pos h⟩
theorem number_s (h : At s v) : sat (f1091_number s v q) fun r => Fw s v r.2.1 ∧ I64 r.1 ∧ (r.2.2 = true → q = true ∧ ∃ w, RdW s v [BL w] r.2.1 ∧ f1022_Itoa r.1 = some w) := by
 have i0 : I64 0 := by unfold I64; omega
 unfold f1091_number
 refine i_call (Q := fun r : BA × Int × Bool × Int => Fw s v r.2.1 ∧ I64 r.2.2.2 ∧ (r.2.2.1 = true → q = true ∧ ∃ w, RdW s v [BL w] r.2.1 ∧ f1022_Itoa r.2.2.2 = some w)) ?_ fun r hr => sat_mk hr
 unfold f1012b_take
 have no : ∀ n, I64 n → sat (some ((⟨#[]⟩ : BA), v, false, n)) fun r : BA × Int × Bool × Int => Fw s v r.2.1 ∧ I64 r.2.2.2 ∧ (r.2.2.1 = true → q = true ∧ ∃ w, RdW s v [BL w] r.2.1 ∧ f1022_Itoa r.2.2.2 = some w) := fun n hn => sat_mk ⟨h.fw, hn, fun h => by cases h⟩
 refine i_cond (fun hq => i_call (h.peek true) fun r hr => ?_) fun _ => no _ i0
 obtain ⟨w, t⟩ := r
 refine i_cond (fun ht => ?_) fun _ => no _ i0
 have hw : Wrd s v w := hr ht
 refine i_call (Q := fun b : Bool × Int => I64 b.2 ∧ (b.1 = true → f1022_Itoa b.2 = some w)) ?_ fun b hb => ?_
 · unfold f1092_1
   have hsz : w.size ≤ 4000 := by have := hw.1; have := h.sz; have := h.lo; omega
   refine i_call (atoi_s w hsz) fun r hr => ?_
   obtain ⟨n, e⟩ := r
   have hn : I64 n := hr
   refine i_cond (fun _ => ?_) fun _ => sat_mk ⟨hn, fun h => by cases h⟩
   obtain ⟨x, hx⟩ := itoa_s hn
   refine i_bind (sat_mk_of' hx (i_cond (fun he => sat_mk ⟨hn, fun _ => ?_⟩) fun _ => sat_mk ⟨hn, fun h => by cases h⟩))
   rw [← k_eq he]; exact hx
 · obtain ⟨b, n⟩ := b
   refine i_cond (fun hb' => ?_) fun _ => no _ hb.1
   rw [h.next hw]
   exact sat_mk ⟨h.nfw hw, hb.1, fun _ => ⟨hq, w, hw.rd, hb.2 hb'⟩⟩
theorem quoted_s {n : Nat} (hn : 4010 ≤ n) (h : At s v) : sat (f1097_quoted n s v q) fun r => Fw s v r.2.1 ∧ (r.2.2 = true → q = true ∧ ∃ w, RdW s v [BL w] r.2.1 ∧ f1006_quote r.1 = some w) := by
 unfold f1097_quoted
 refine i_call (Q := fun r : BA × Int × Bool × BA => Fw s v r.2.1 ∧ (r.2.2.1 = true → q = true ∧ ∃ w, RdW s v [BL w] r.2.1 ∧ f1006_quote r.2.2.2 = some w)) ?_ fun r hr => sat_mk hr
 unfold f1012e_take
 have no : ∀ n, sat (some ((⟨#[]⟩ : BA), v, false, n)) fun r : BA × Int × Bool × BA => Fw s v r.2.1 ∧ (r.2.2.1 = true → q = true ∧ ∃ w, RdW s v [BL w] r.2.1 ∧ f1006_quote r.2.2.2 = some w) := fun n => sat_mk ⟨h.fw, fun h => by cases h⟩
 refine i_cond (fun hq => i_call (h.peek true) fun r hr => ?_) fun _ => no _
 obtain ⟨w, t⟩ := r
 refine i_cond (fun ht => ?_) fun _ => no _
 have hw : Wrd s v w := hr ht
 have hsz : w.size ≤ 4000 := by have := hw.1; have := h.sz; have := h.lo; omega
 refine i_call (Q := fun b : Bool × BA => b.1 = true → f1006_quote b.2 = some w) ?_ fun b hb => ?_
 · unfold f1098_1
   exact i_call (unquote_s n w hsz hn) fun r hr => sat_mk hr
 · obtain ⟨b, x⟩ := b
   refine i_cond (fun hb' => ?_) fun _ => no _
   rw [h.next hw]
   exact sat_mk ⟨h.nfw hw, fun _ => ⟨hq, w, hw.rd, hb hb'⟩⟩
theorem must_s (u : BA) (h : At s v) : sat (f1094_must u s v q) fun r => Fw s v r.1 ∧ (r.2 = true → q = true ∧ RdW s v [BL u] r.1) := by
 unfold f1094_must
 refine i_call (Q := fun r : BA × Int × Bool => Fw s v r.2.1 ∧ (r.2.2 = true → q = true ∧ RdW s v [BL u] r.2.1)) ?_ fun r hr => sat_mk hr
 unfold f1012c_take
 have no : sat (some ((⟨#[]⟩ : BA), v, false)) fun r : BA × Int × Bool => Fw s v r.2.1 ∧ (r.2.2 = true → q = true ∧ RdW s v [BL u] r.2.1) := sat_mk ⟨h.fw, fun h => by cases h⟩
 refine i_cond (fun hq => i_call (h.peek true) fun r hr => ?_) fun _ => no
 obtain ⟨w, t⟩ := r
 refine i_cond (fun ht => ?_) fun _ => no
 have hw : Wrd s v w := hr ht
 refine i_call (Q := fun b : Bool => b = true → w = u) ?_ fun b hb => i_cond (fun hb' => ?_) fun _ => no
 · unfold f1095_1
   exact i_cond (fun he => sat_mk fun _ => k_eq he) fun _ => sat_mk fun h => by cases h
 · rw [h.next hw]
   have := hb hb'
   subst this
   exact sat_mk ⟨h.nfw hw, fun _ => ⟨hq, hw.rd⟩⟩
theorem is_s (u : BA) (h : At s v) : sat (f1096_is u s v true) fun r => Fw s v r.2.1 ∧ r.2.2 = true ∧ (r.1 = true → v < r.2.1 ∧ RdW s v [BL u] r.2.1) ∧ (r.1 = false → r.2.1 = v) := by
 unfold f1096_is
 have no : sat (some (false, v, true)) fun r : Bool × Int × Bool => Fw s v r.2.1 ∧ r.2.2 = true ∧ (r.1 = true → v < r.2.1 ∧ RdW s v [BL u] r.2.1) ∧ (r.1 = false → r.2.1 = v) := sat_mk ⟨h.fw, rfl, (fun h => by cases h), fun _ => rfl⟩
 refine i_call (h.peek true) fun r hr => ?_
 obtain ⟨w, t⟩ := r
 refine i_cond (fun _ => i_cond (fun ht => i_cond (fun he => ?_) fun _ => no) fun _ => no) fun h => by cases h
 have hw : Wrd s v w := hr ht
 rw [h.next hw]
 have := k_eq he
 subst this
 exact sat_mk ⟨h.nfw hw, rfl, fun _ => ⟨by show v < v + w.size + 1; omega, hw.rd⟩, fun h => by cases h⟩
theorem float_s {k : Int} {x : BA} (h : At s v) : sat (f1012g_take s v true k 0 x) fun r => Fw s v r.2.1 ∧ (r.2.2.1 = true → ∃ w, RdW s v [BL w] r.2.1 ∧ Hx16 w ∧ r.2.2.2 = wrap .i64 ((val (BL w) 0 : Nat) : Int)) := by
 unfold f1012g_take
 have no : ∀ n, sat (some ((⟨#[]⟩ : BA), v, false, n)) fun r : BA × Int × Bool × Int => Fw s v r.2.1 ∧ (r.2.2.1 = true → ∃ w, RdW s v [BL w] r.2.1 ∧ Hx16 w ∧ r.2.2.2 = wrap .i64 ((val (BL w) 0 : Nat) : Int)) := fun n => sat_mk ⟨h.fw, fun h => by cases h⟩
 refine i_cond (fun hq => i_call (h.peek true) fun r hr => ?_) fun h => by cases h
 obtain ⟨w, t⟩ := r
 refine i_cond (fun ht => ?_) fun _ => no _
 have hw : Wrd s v w := hr ht
 have hsz : w.size ≤ 4000 := by have := hw.1; have := h.sz; have := h.lo; omega
 refine i_call (Q := fun b : Bool × Int => b.1 = true → Hx16 w ∧ b.2 = wrap .i64 ((val (BL w) 0 : Nat) : Int)) ?_ fun b hb => ?_
 · unfold f1102_2
   have tot : sat (f1088_ParseUint w 16 64) fun r => Hx16 w → r = (((val (BL w) 0 : Nat) : Int), true) := by
    by_cases hx : Hx16 w
    · exact ⟨_, pu16 hx, fun _ => rfl⟩
    · unfold f1088_ParseUint
      refine i_call (pu_s w hsz 16 64 (.inr rfl) (.inr rfl)) fun r hr => ?_
      obtain ⟨y, o⟩ := r
      refine i_cond (fun h => ?_) fun _ => sat_mk fun h => absurd h hx
      refine i_call (toError_s _ w _ _ o hsz ?_) fun _ _ => sat_mk fun h => absurd h hx
      rcases hr with hr | h2 | h2
      · have : o = none := hr
        subst this
        exact absurd h (by decide)
      · exact .inl h2
      · exact .inr h2
   refine i_call tot fun r hr => ?_
   obtain ⟨y, e⟩ := r
   refine i_cond (fun _ => i_cond (fun hs => ?_) fun _ => sat_mk fun h => by cases h) fun _ => sat_mk fun h => by cases h
   have hs : w.size = 16 := by have : (w.size : Int) = 16 := by simpa using hs
                               omega
   unfold f1020_Trim
   refine i_bind (i_grdP ⟨by decide, by omega⟩ (sat_mk (i_cond (fun he => sat_mk fun _ => ?_) fun _ => sat_mk fun h => by cases h)))
   have he := k_eq he
   have hn : Lib.trimS w.data.toList HX.data.toList = [] := by
    have := congrArg BL he
    simpa [BL] using this
   have hx : Hx16 w := ⟨hs, trim_nil _ _ hn⟩
   have := hr hx
   cases this
   exact ⟨hx, rfl⟩
 · obtain ⟨b, n⟩ := b
   refine i_cond (fun hb' => ?_) fun _ => no _
   rw [h.next hw]
   exact sat_mk ⟨h.nfw hw, fun _ => ⟨w, hw.rd, hb hb'⟩⟩
end Go.Clap
