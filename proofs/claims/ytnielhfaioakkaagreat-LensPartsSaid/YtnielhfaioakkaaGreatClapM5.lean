/- The checks of the small code against the loaded functions. -/
import Derived.Test.YtnielhfaioakkaaGreatClapM4
set_option linter.unusedVariables false
set_option linter.unusedSimpArgs false
set_option maxRecDepth 100000
namespace Go.Clap
def NP : Ln → Prop
 | .mk op nm to ns n lo hi sep v prs ks => ns.length ≤ 100 ∧ prs.length ≤ 100 ∧ ks.length ≤ 100 ∧ WV 100 v ∧ (∀ x, x ∈ prs → WV 100 x.1 ∧ WV 100 x.2) ∧ (op = 9 → ∀ p, p ∈ ns → p = ⟨#[91, 97, 45, 99, 93, 42]⟩ ∨ p = ⟨#[91, 48, 45, 57, 93, 42]⟩)
def kids : Ln → List Ln
 | .mk op nm to ns n lo hi sep v prs ks => ks
inductive GL : Nat → Ln → Prop
 | mk {k : Nat} (l : Ln) (h : NP l) (hk : ∀ x, x ∈ kids l → GL k x) : GL (k + 1) l
theorem GL.succ {k : Nat} {l : Ln} (h : GL k l) : GL (k + 1) l := by
 induction h with
 | mk l h _ ih => exact .mk l h ih
theorem GL.le {k m : Nat} (hkm : k ≤ m) {l : Ln} (h : GL k l) : GL m l := by
 induction hkm with
 | refl => exact h
 | step _ ih => exact ih.succ
theorem wv0 {k : Nat} (a b : Int) (c : ByteArray) : WV (k + 1) (.mk a b c []) := .mk _ _ _ _ (by simp) (by simp)
theorem gl0 {k : Nat} (op : Int) (nm to : BA) (ns : LB) (n lo hi sep : Int) (v : V) (h1 : ns.length ≤ 100) (h2 : WV 100 v) (h9 : op ≠ 9) : GL (k + 1) (.mk op nm to ns n lo hi sep v [] []) :=
 .mk _ ⟨h1, by simp, by simp, h2, by simp, fun h => absurd h h9⟩ (by simp [kids])
theorem glE {k : Nat} (op : Int) (nm to : BA) (n lo hi sep : Int) (h9 : op ≠ 9) : GL (k + 1) (.mk op nm to [] n lo hi sep (.mk 0 0 ⟨#[]⟩ []) [] []) := gl0 _ _ _ _ _ _ _ _ _ (by simp) (wv0 ..) h9
theorem glP {k : Nat} (op : Int) (nm to : BA) (n lo hi sep : Int) (prs : LW) (h1 : prs.length ≤ 100) (h2 : ∀ x, x ∈ prs → WV 100 x.1 ∧ WV 100 x.2) (h9 : op ≠ 9) : GL (k + 1) (.mk op nm to [] n lo hi sep (.mk 0 0 ⟨#[]⟩ []) prs []) :=
 .mk _ ⟨by simp, h1, by simp, wv0 .., h2, fun h => absurd h h9⟩ (by simp [kids])
theorem glK {k : Nat} (op : Int) (nm to : BA) (ns : LB) (n lo hi sep : Int) (ks : List Ln) (h0 : ns.length ≤ 100) (h1 : ks.length ≤ 100) (h2 : ∀ x, x ∈ ks → GL k x) (h9 : op ≠ 9) : GL (k + 1) (.mk op nm to ns n lo hi sep (.mk 0 0 ⟨#[]⟩ []) [] ks) :=
 .mk _ ⟨h0, by simp, h1, wv0 .., by simp, fun h => absurd h h9⟩ h2
theorem same_eq (t : Tp) : f380 t = some (.mk 0 ⟨#[]⟩ ⟨#[]⟩ [] 0 0 0 0 (.mk 0 0 ⟨#[]⟩ []) [] [], t) := by
 obtain ⟨k, m, lo, hi, p, ps⟩ := t
 rfl
theorem del_tot {i j : Int} {l : PT} (h0 : 0 ≤ i) (h1 : i < j) (h2 : j ≤ l.length) : sat (f443 i j l) fun r => (∀ x, x ∈ r → x ∈ l) ∧ r.length + j.toNat = l.length + i.toNat := by
 unfold f443
 refine i_grdP ⟨h0, h1, h2⟩ (sat_mk ⟨fun x hx => ?_, ?_⟩)
 · rcases List.mem_append.1 hx with h | h
   · exact List.mem_of_mem_take h
   · exact List.mem_of_mem_drop h
 · rw [List.length_append, List.length_take, List.length_drop]; omega
theorem ins_tot {i : Int} {vs l : PT} (h0 : 0 ≤ i) (h1 : i ≤ l.length) (h2 : l.length + vs.length ≤ 1000) : sat (f446 i vs l) fun r => (∀ x, x ∈ r → x ∈ vs ∨ x ∈ l) ∧ r.length = l.length + vs.length := by
 unfold f446
 refine i_grdP ⟨h0, h1, by omega⟩ (sat_mk ⟨fun x hx => ?_, ?_⟩)
 · rcases List.mem_append.1 hx with h | h
   · rcases List.mem_append.1 h with h | h
     · exact .inr (List.mem_of_mem_take h)
     · exact .inl h
   · exact .inr (List.mem_of_mem_drop h)
 · simp only [List.length_append, List.length_take, List.length_drop]; omega
theorem all_set {α : Type} {P : α → Prop} {l : List α} {i : Nat} {a : α} (h : ∀ x, x ∈ l → P x) (ha : P a) : ∀ x, x ∈ l.set i a → P x := fun x hx => by
 rcases List.mem_or_eq_of_mem_set hx with h1 | rfl
 · exact h x h1
 · exact ha
theorem all_snoc {α : Type} {P : α → Prop} {l : List α} {a : α} (h : ∀ x, x ∈ l → P x) (ha : P a) : ∀ x, x ∈ l ++ [a] → P x := fun x hx => by
 rcases List.mem_append.1 hx with h1 | h1
 · exact h x h1
 · obtain rfl := List.mem_singleton.1 h1; exact ha
def Wd (w : ByteArray) : Prop := ∃ c : UInt8, plainB c = true ∧ w = ⟨#[119, c]⟩
theorem sortBA_mem {y : BA} {l : LB} (h : y ∈ sortBA l) : y ∈ l := by
 unfold sortBA at h
 obtain ⟨x, hx, rfl⟩ := List.mem_map.1 h
 obtain ⟨z, hz, rfl⟩ := List.mem_map.1 (List.mem_mergeSort.1 hx)
 exact hz
theorem sortBA_len (l : LB) : (sortBA l).length = l.length := by simp [sortBA, List.length_mergeSort]
theorem PA.snoc {I : U8 → Nat → Prop} {x y : U8} {w v : Nat} (h : PA I x w) (k : PS I y v) : PA I (x ++ [124] ++ y) (max w v) := by
 induction h with
 | one h => exact .alt h (.one k)
 | @alt x z w u h _ ih =>
  rw [show x ++ [124] ++ z ++ [124] ++ y = x ++ [124] ++ (z ++ [124] ++ y) by simp [List.append_assoc], Nat.max_assoc]
  exact .alt h ih
theorem wd_of {x n : Int} (h0 : 0 ≤ x) (hn : 1 ≤ n) (hn6 : n ≤ 6) : Wd ((⟨#[119]⟩ : BA) ++ (strOfNums ([(IntKind.wrap .u8 ((48 : Int) + (IntKind.wrap .u8 (Int.tmod x n))))] : LI))) := by
 have h1 := Int.tmod_nonneg n h0
 have h2 := Int.tmod_lt_of_pos x (show 0 < n by omega)
 generalize Int.tmod x n = y at h1 h2 ⊢
 have : y = 0 ∨ y = 1 ∨ y = 2 ∨ y = 3 ∨ y = 4 ∨ y = 5 := by omega
 rcases this with rfl | rfl | rfl | rfl | rfl | rfl
 · exact ⟨48, rfl, rfl⟩
 · exact ⟨49, rfl, rfl⟩
 · exact ⟨50, rfl, rfl⟩
 · exact ⟨51, rfl, rfl⟩
 · exact ⟨52, rfl, rfl⟩
 · exact ⟨53, rfl, rfl⟩
theorem look2 (k7 lo9 hi10 v17 v19 n : Int) (hW : IntKind.wrap .i64 (IntKind.wrap .i64 (hi10 - lo9) + 1) = n) (hn : 1 ≤ n) (hn6 : n ≤ 6) (h19 : 0 ≤ v19 ∧ v19 < n) : ∀ (g : Nat) (v : Int) (l : LB) (p : LW), 0 ≤ v → v + g ≤ 6 → l.length + g ≤ 100 → p.length + g ≤ 100 → (∀ w, w ∈ l → Wd w) → (∀ x, x ∈ p → WV 100 x.1 ∧ WV 100 x.2) →
 sat (f428_L2 k7 lo9 hi10 v17 v19 g v l p) fun o => ∃ l' p', o = .inr (l', p') ∧ l'.length ≤ l.length + g ∧ (v17 = 5 → l'.length = l.length + g) ∧ (∀ w, w ∈ l' → Wd w) ∧ p'.length ≤ p.length + g ∧ ∀ x, x ∈ p' → WV 100 x.1 ∧ WV 100 x.2 := by
 intro g
 induction g with
 | zero => exact fun v l p h0 h1 hl hp hlw hpw => sat_mk ⟨_, _, rfl, by omega, fun _ => rfl, hlw, by omega, hpw⟩
 | succ g ih =>
  intro v l p h0 h1 hl hp hlw hpw
  unfold f428_L2
  rw [hW]
  have hwd := wd_of (x := IntKind.wrap .i64 (v + v19)) (n := n) (by rw [wrap_id (by omega) (by omega)]; omega) hn hn6
  refine i_grdP (by omega) (i_any (fun x : LB × Int × BA => x.1.length ≤ l.length + 1 ∧ (v17 = 5 → x.1.length = l.length + 1) ∧ ∀ w, w ∈ x.1 → Wd w) ?_ ?_)
  · refine i_cond (fun c => i_grdP (by omega) (i_grdP ?_ (i_grdP (by simp; omega) (sat_mk ⟨_, rfl, by simp, by simp, all_snoc hlw hwd⟩)))) (fun c => sat_mk ⟨_, rfl, by simp, fun h => (by subst h; cases c), hlw⟩)
    rw [strOfNums_size]; show ((1 + 1 : Nat) : Int) ≤ _; omega
  · rintro ⟨l', a, b⟩ ⟨hl1, hl2, hl3⟩
    dsimp only at hl1 hl2 hl3
    refine i_grdP (by simp; omega) (sat_mono (ih _ _ _ (by omega) (by omega) (by omega) (by simp; omega) hl3 (all_snoc hpw ⟨wv0 .., wv0 ..⟩)) ?_)
    rintro o ⟨l2, p2, rfl, g1, g2, g3, g4, g5⟩
    exact ⟨_, _, rfl, by omega, fun h => by rw [g2 h, hl2 h]; omega, g3, by simp at g4; omega, g5⟩
theorem wd_ps {w : BA} (h : Wd w) : PS (PI 0) w.data.toList 2 ∧ w.size = 2 := by
 obtain ⟨c, hc, rfl⟩ := h
 exact ⟨.cons (x := [119]) (w := 1) (v := 1) (.chr 119 rfl) (PS.i (.chr c hc)), rfl⟩
theorem look4 (l68 l : LB) (hlen : l.length = l68.length) (h6 : l68.length ≤ 6) (hw : ∀ w, w ∈ l → Wd w) : ∀ (g v : Nat) (s : BA), v + g = l68.length → ((v = 0 ∧ s = ⟨#[]⟩) ∨ (0 < v ∧ PA (PI 0) s.data.toList 2 ∧ s.size ≤ 3 * v)) →
 sat (f428_L4 l68 l g (v : Int) s) fun o => ∃ s', o = .inr (0, 0, s') ∧ (l68.length ≠ 0 → TP s') := by
 intro g
 induction g with
 | zero =>
  intro v s hv hs
  refine sat_mk ⟨s, rfl, fun h => ?_⟩
  rcases hs with ⟨h0, _⟩ | ⟨_, h1, h2⟩
  · omega
  · exact ⟨by omega, 0, 2, by omega, by omega, h1⟩
 | succ g ih =>
  intro v s hv hs
  unfold f428_L4
  refine i_grdP (by omega) (i_getN (by omega) fun w hwm _ => ?_)
  obtain ⟨hp, h2⟩ := wd_ps (hw w hwm)
  have e : (⟨#[124]⟩ : BA).size = 1 := rfl
  have ev : ((v : Nat) : Int) + 1 = ((v + 1 : Nat) : Int) := by omega
  rw [ev]
  refine i_cond (fun c => ?_) (fun c => ?_)
  · rcases hs with ⟨h0, _⟩ | ⟨_, h3, h4⟩
    · subst h0; simp at c
    · refine i_grdP (by omega) (i_grdP (by rw [ByteArray.size_append]; omega) (ih _ _ (by omega) (.inr ⟨by omega, ?_, ?_⟩)))
      · rw [toList_append, toList_append]
        exact h3.snoc hp
      · rw [ByteArray.size_append, ByteArray.size_append]; omega
  · rcases hs with ⟨h0, rfl⟩ | ⟨h0, h3, h4⟩
    · refine i_grdP (by rw [h2]; decide) (ih _ _ (by omega) (.inr ⟨by omega, ?_, ?_⟩))
      · rw [toList_append]
        exact .one hp
      · rw [ByteArray.size_append, h2]; show 0 + 2 ≤ _; omega
    · simp at c; omega
theorem look_tot {s : PT} {d k : Nat} (t : Tp) (ht : VT s k t) (k7 : Int) (m8 : BA) (lo hi : Int) (p : BA) (ps : PT) (h0 : -9007199254740992 ≤ lo) (h1 : lo ≤ hi) (h2 : hi ≤ 9007199254740992) (l13 : PT) (l14 : LI) :
 sat (f428 t (.mk k7 m8 lo hi p ps) l13 l14) fun r => GL (d + 1) r.1 ∧ VT s k r.2.1 := by
 obtain ⟨k1, m1, lo1, hi1, p1, ps1⟩ := t
 obtain ⟨n, hn⟩ : ∃ n, n = hi - lo + 1 := ⟨_, rfl⟩
 have hW : IntKind.wrap .i64 (IntKind.wrap .i64 (hi - lo) + 1) = n := by
  rw [wrap_id (x := hi - lo) (by omega) (by omega), wrap_id (by omega) (by omega), hn]
 unfold f428
 dsimp only
 rw [hW]
 refine i_cond (fun c => ?_) (fun c1 => i_cond (fun c => ?_) (fun c2 => ?_))
 · rw [same_eq]; exact sat_mk ⟨glE _ _ _ _ _ _ _ (by omega), ht⟩
 · rw [same_eq]; exact sat_mk ⟨glE _ _ _ _ _ _ _ (by omega), ht⟩
 have hn1 : 1 ≤ n := by simpa using c1
 have hn6 : n ≤ 6 := by simpa using c2
 refine i_call (pickI_tot _ _ (by simp) (by simp)) fun r hr => ?_
 obtain ⟨v17, l18⟩ := r
 simp only [List.mem_cons, List.not_mem_nil, or_false] at hr
 refine i_call (next_tot _ _ (by omega)) fun r hr2 => ?_
 obtain ⟨v19, l20⟩ := r
 dsimp only at hr2 ⊢
 refine i_sbind (i_grdP (by omega) (sat_mono (look2 k7 lo hi v17 v19 n hW hn1 hn6 (by omega) _ 0 [] [] (by omega) (by omega) (by simp; omega) (by simp; omega) (by simp) (by simp)) ?_))
 rintro o ⟨l', p', rfl, g1, g2, g3, g4, g5⟩
 simp only [List.length_nil, Nat.zero_add] at g1 g2 g4
 refine i_any (fun x : Int × Int × BA => (v17 = 5 → TP x.2.2) ∧ (v17 ≠ 5 → x.1 = 40 ∧ x.2.1 = 39 + n)) ?_ ?_
 · refine i_cond (fun c => i_call (Q := fun r => r = sortBA l') ?_ ?_) (fun c => sat_mk ⟨_, rfl, fun h => (by subst h; cases c), fun _ => ⟨rfl, ?_⟩⟩)
   · unfold f449; exact i_grdP (by show l'.length < _; omega) (sat_mk rfl)
   · rintro _ rfl
     have h5 : v17 = 5 := by simpa using c
     refine i_grdP (by show (l'.length : Int) ≤ _; omega) (sat_mono (look4 l' (sortBA l') (sortBA_len l') (by omega) (fun w hw => g3 w (sortBA_mem hw)) _ 0 ⟨#[]⟩ (by show 0 + ((l'.length : Int) - 0).toNat = l'.length; omega) (.inl ⟨rfl, rfl⟩)) ?_)
     rintro o ⟨s', rfl, hs⟩
     have := g2 h5
     exact ⟨_, rfl, fun _ => hs (by omega), fun h => absurd h5 h⟩
   · rw [wrap_id (by omega) (by omega)]
 · rintro ⟨a, b, c⟩ ⟨j1, j2⟩
   dsimp only at j1 j2 ⊢
   refine sat_mk ⟨glP _ _ _ _ _ _ _ _ (by omega) g5 (by omega), ?_⟩
   rcases hr with rfl | rfl | rfl
   · obtain ⟨rfl, rfl⟩ := j2 (by omega)
     exact .num _ _ _ _ _ _ (by omega) (by omega) (by omega) (by omega)
   · obtain ⟨rfl, rfl⟩ := j2 (by omega)
     exact .num _ _ _ _ _ _ (by omega) (by omega) (by omega) (by omega)
   · exact .text _ _ _ _ _ (j1 rfl)
theorem text_tot {s : PT} {d k : Nat} (t : Tp) (ht : VT s k t) (r : Tp) (l13 : PT) (l14 : LI) : sat (f429 t r l13 l14) fun r => GL (d + 1) r.1 ∧ VT s k r.2 := by
 obtain ⟨k1, m1, lo1, hi1, p1, ps1⟩ := t
 obtain ⟨k7, m8, lo9, hi10, p11, ps12⟩ := r
 have h4 : ∀ (l : LB) (j : Nat) (a : LW), a.length + l.length ≤ 100 → (∀ x, x ∈ a → WV 100 x.1 ∧ WV 100 x.2) → sat (f429_L4 l j a) fun o => ∃ a', o = .inr a' ∧ a'.length ≤ 100 ∧ ∀ x, x ∈ a' → WV 100 x.1 ∧ WV 100 x.2 := by
  intro l
  induction l with
  | nil => exact fun j a h ha => sat_mk ⟨_, rfl, by simpa using h, ha⟩
  | cons x l ih => exact fun j a h ha => i_grdP (by simp at h ⊢; omega) (ih _ _ (by simp at h ⊢; omega) (all_snoc ha ⟨wv0 .., wv0 ..⟩))
 unfold f429
 dsimp only
 refine i_sbind (i_cond (fun _ => i_lft (sat_mk ⟨glE _ _ _ _ _ _ _ (by omega), .num _ _ _ _ _ _ (by omega) (by omega) (by omega) (by omega)⟩)) (fun _ => i_cond (fun _ => i_sbind (sat_mono (h4 _ _ _ (by simp) (by simp)) ?_)) (fun _ => sat_mk ?_)))
 · rintro o ⟨a', rfl, g1, g2⟩
   exact i_lft (sat_mk ⟨glP _ _ _ _ _ _ _ _ g1 g2 (by omega), .num _ _ _ _ _ _ (by omega) (by omega) (by omega) (by omega)⟩)
 · show sat _ _
   rw [same_eq]; exact sat_mk ⟨glE _ _ _ _ _ _ _ (by omega), ht⟩
end Go.Clap
