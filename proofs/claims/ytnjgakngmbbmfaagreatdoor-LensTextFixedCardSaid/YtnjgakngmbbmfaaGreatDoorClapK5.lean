/- The checks of the small code against the loaded functions. -/
import Derived.Test.YtnjgakngmbbmfaaGreatDoorClapK4
set_option linter.unusedVariables false
set_option linter.unusedSimpArgs false
set_option maxRecDepth 100000
namespace Go.Clap
open Go.IntKind (wrap)
abbrev nm (w : List UInt8) : LI := w.map fun u => (u.toNat : Int)
def px (ws : List (List UInt8)) : LI := ws.flatMap fun w => 32 :: nm w
theorem px_append (a b : List (List UInt8)) : px (a ++ b) = px a ++ px b := by simp [px]
theorem px_one (w : List UInt8) : px [w] = 32 :: nm w := by simp [px]
theorem px_nil : px [] = [] := rfl
theorem px_ne {w : List UInt8} {ws : List (List UInt8)} (l : LI) (h : l ≠ []) : l ++ px ws ≠ [] := by simp [h]
theorem bytesJ_BL (w : BA) : bytesJ w = nm (BL w) := rfl
theorem nm_len (w : BA) : (nm (BL w)).length = w.size := by rw [List.length_map]; rfl
theorem put_step (w : BA) (t : LB) (j : Nat) {l : LI} (hl : l ≠ []) (hb : l.length + (px [BL w]).length ≤ 100000) : f1005a_put_L1 (w :: t) j l = f1005a_put_L1 t (j + 1) (l ++ px [BL w]) := by
 rw [px_one, List.length_cons, nm_len] at hb
 have h1 : 0 < l.length := List.length_pos_iff.2 hl
 have h2 : decide (((l.length : Nat) : Int) > 0) = true := decide_eq_true (by omega)
 show cond (decide (((l.length : Nat) : Int) > 0)) (grdP (l.length + ([32] : LI).length ≤ 68719476736) (grdP ((l ++ ([32] : LI)).length + (bytesJ w).length ≤ 68719476736) (f1005a_put_L1 t (j + 1) ((l ++ ([32] : LI)) ++ (bytesJ w))))) _ = _
 rw [h2, cond_true]
 have e1 : ([32] : LI).length = 1 := rfl
 have e2 : (l ++ ([32] : LI)).length = l.length + 1 := by rw [List.length_append, e1]
 unfold grdP
 rw [if_pos (by rw [e1]; omega), if_pos (by rw [e2, bytesJ_BL, nm_len]; omega), px_one, bytesJ_BL, List.append_assoc]
 rfl
theorem put1 (w : BA) {l : LI} (hl : l ≠ []) (hb : l.length + (px [BL w]).length ≤ 100000) : f1005a_put [w] l = some (l ++ px [BL w]) := by
 show f1005a_put_L1 [w] 0 l = _
 rw [put_step w [] 0 hl hb]
 rfl
theorem put2 (a b : BA) {l : LI} (hl : l ≠ []) (hb : l.length + (px [BL a, BL b]).length ≤ 100000) : f1005a_put [a, b] l = some (l ++ px [BL a, BL b]) := by
 have e : px [BL a, BL b] = px [BL a] ++ px [BL b] := px_append [_] [_]
 rw [e, List.length_append] at hb
 show f1005a_put_L1 [a, b] 0 l = _
 rw [put_step a [b] 0 hl (by omega), put_step b [] 1 (by simp [hl]) (by rw [List.length_append]; omega), e, List.append_assoc]
 rfl
def VD : Nat → V → Prop
 | 0, _ => False
 | k + 1, .mk _ _ _ fs => ∀ x ∈ fs, VD k x.2
theorem VD.mono {k m : Nat} (h : k ≤ m) {x : V} (hx : VD k x) : VD m x := by
 induction k generalizing m x with
 | zero => exact hx.elim
 | succ k ih =>
  obtain ⟨m, rfl⟩ : ∃ m', m = m' + 1 := ⟨m - 1, by omega⟩
  obtain ⟨a, b, c, fs⟩ := x
  exact fun y hy => ih (by omega) (hx y hy)
def PV (k : Nat) (x : V) (ws : List (List UInt8)) : Prop := ∀ n, k ≤ n → ∀ l : LI, l ≠ [] → l.length + (px ws).length ≤ 100000 → f1104_value n x l = some (l ++ px ws)
def PF (k : Nat) (kd : Int) (fs : FV) (ws : List (List UInt8)) : Prop := ∀ n, k ≤ n → ∀ (j : Nat) (l : LI), l ≠ [] → l.length + (px ws).length ≤ 100000 → f1104_value_L2 (f1104_value n) kd fs j l = some (.inr (l ++ px ws))
def KK (k : Int) (w : BA) : Prop := (k = 0 ∧ w = ⟨#[117, 110, 105, 116]⟩) ∨ (k = 1 ∧ w = ⟨#[98, 111, 111, 108]⟩) ∨ (k = 2 ∧ w = ⟨#[105, 110, 116]⟩) ∨ (k = 3 ∧ w = ⟨#[102, 108, 111, 97, 116]⟩) ∨ (k = 4 ∧ w = ⟨#[100, 97, 121]⟩) ∨ (k = 5 ∧ w = ⟨#[116, 101, 120, 116]⟩) ∨
 (k = 6 ∧ w = ⟨#[114, 101, 99, 111, 114, 100]⟩) ∨ (k = 7 ∧ w = ⟨#[99, 104, 111, 105, 99, 101]⟩) ∨ (k = 8 ∧ w = ⟨#[108, 105, 115, 116]⟩) ∨ (k = 9 ∧ w = ⟨#[109, 97, 112]⟩) ∨ (k = 11 ∧ w = ⟨#[109, 97, 114, 107]⟩)
abbrev KN : LB := [(⟨#[117, 110, 105, 116]⟩ : BA), (⟨#[98, 111, 111, 108]⟩ : BA), (⟨#[105, 110, 116]⟩ : BA), (⟨#[102, 108, 111, 97, 116]⟩ : BA), (⟨#[100, 97, 121]⟩ : BA), (⟨#[116, 101, 120, 116]⟩ : BA), (⟨#[114, 101, 99, 111, 114, 100]⟩ : BA), (⟨#[99, 104, 111, 105, 99, 101]⟩ : BA), (⟨#[108, 105, 115, 116]⟩ : BA), (⟨#[109, 97, 112]⟩ : BA), (⟨#[]⟩ : BA), (⟨#[109, 97, 114, 107]⟩ : BA)]
theorem kl_step {w : BA} {g : Nat} {i : Int} {u : BA} {R : Sum Int Unit → Prop} (h0 : 0 ≤ i) (hu : KN[i.toNat]? = some u) (h1 : w = u → R (.inl i)) (h2 : sat (f1008_kindOf_L2 w g (i + 1)) R) : sat (f1008_kindOf_L2 w (g + 1) i) R := by
 unfold f1008_kindOf_L2
 have hi := (List.getElem?_eq_some_iff.1 hu).1
 refine i_getL h0 (by show i < ((KN.length : Nat) : Int); omega) fun x _ hx => ?_
 have hx : KN[i.toNat]? = some x := hx
 rw [hu] at hx
 cases hx
 exact i_cond (fun _ => i_cond (fun h => ⟨_, rfl, h1 (k_eq h).symm⟩) fun _ => h2) fun _ => h2
theorem kl_skip {w : BA} {g : Nat} {R : Sum Int Unit → Prop} (h2 : sat (f1008_kindOf_L2 w g 11) R) : sat (f1008_kindOf_L2 w (g + 1) 10) R := by
 unfold f1008_kindOf_L2
 refine i_getL (by decide) (by decide) fun x _ hx => ?_
 have hx : some (⟨#[]⟩ : BA) = some x := hx
 cases hx
 exact i_cond (fun h => by rw [k_beq] at h; cases h) fun _ => h2
theorem kind_s (w : BA) : sat (f1008_kindOf w) fun k => 0 ≤ k → KK k w := by
 unfold f1008_kindOf
 refine i_sbind (i_grdP (by decide) ?_)
 show sat (f1008_kindOf_L2 w 12 0) _
 refine kl_step (by decide) rfl (fun h _ => .inl ⟨rfl, h⟩) ?_
 refine kl_step (by decide) rfl (fun h _ => .inr (.inl ⟨rfl, h⟩)) ?_
 refine kl_step (by decide) rfl (fun h _ => .inr (.inr (.inl ⟨rfl, h⟩))) ?_
 refine kl_step (by decide) rfl (fun h _ => .inr (.inr (.inr (.inl ⟨rfl, h⟩)))) ?_
 refine kl_step (by decide) rfl (fun h _ => .inr (.inr (.inr (.inr (.inl ⟨rfl, h⟩))))) ?_
 refine kl_step (by decide) rfl (fun h _ => .inr (.inr (.inr (.inr (.inr (.inl ⟨rfl, h⟩)))))) ?_
 refine kl_step (by decide) rfl (fun h _ => .inr (.inr (.inr (.inr (.inr (.inr (.inl ⟨rfl, h⟩))))))) ?_
 refine kl_step (by decide) rfl (fun h _ => .inr (.inr (.inr (.inr (.inr (.inr (.inr (.inl ⟨rfl, h⟩)))))))) ?_
 refine kl_step (by decide) rfl (fun h _ => .inr (.inr (.inr (.inr (.inr (.inr (.inr (.inr (.inl ⟨rfl, h⟩))))))))) ?_
 refine kl_step (by decide) rfl (fun h _ => .inr (.inr (.inr (.inr (.inr (.inr (.inr (.inr (.inr (.inl ⟨rfl, h⟩)))))))))) ?_
 refine kl_skip ?_
 refine kl_step (by decide) rfl (fun h _ => .inr (.inr (.inr (.inr (.inr (.inr (.inr (.inr (.inr (.inr ⟨rfl, h⟩)))))))))) ?_
 exact sat_mk (sat_mk fun h => absurd h (by decide))
theorem kword_s {s : BA} {v : Int} {q : Bool} (h : At s v) : sat (f1012f_take s v q) fun r => Fw s v r.2.1 ∧ (r.2.2 = true → q = true ∧ RdW s v [BL r.1] r.2.1 ∧ sat (f1008_kindOf r.1) fun k => KK k r.1) := by
 unfold f1012f_take
 have no : sat (some ((⟨#[]⟩ : BA), v, false)) fun r : BA × Int × Bool => Fw s v r.2.1 ∧ (r.2.2 = true → q = true ∧ RdW s v [BL r.1] r.2.1 ∧ sat (f1008_kindOf r.1) fun k => KK k r.1) := sat_mk ⟨h.fw, fun h => by cases h⟩
 refine i_cond (fun hq => i_call (h.peek true) fun r hr => ?_) fun _ => no
 obtain ⟨w, t⟩ := r
 refine i_cond (fun ht => ?_) fun _ => no
 have hw : Wrd s v w := hr ht
 refine i_call (Q := fun b : Bool => b = true → sat (f1008_kindOf w) fun k => KK k w) ?_ fun b hb => i_cond (fun hb' => ?_) fun _ => no
 · unfold f1100_1
   obtain ⟨k, hk, hkk⟩ := kind_s w
   refine i_bind ⟨k, hk, i_cond (fun h => sat_mk fun _ => ⟨k, hk, hkk (of_decide_eq_true h)⟩) fun _ => sat_mk fun h => by cases h⟩
 · rw [h.next hw]
   exact sat_mk ⟨h.nfw hw, fun _ => ⟨hq, hw.rd, hb hb'⟩⟩
end Go.Clap
