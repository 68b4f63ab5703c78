/- The checks of the small code against the loaded functions. -/
import Derived.Test.YtnielhfaioakkaaGreatClapL3
set_option linter.unusedVariables false
set_option linter.unusedSimpArgs false
set_option maxRecDepth 100000
namespace Go.Clap
abbrev U8 := List UInt8
def At (p : ByteArray) (k : Nat) (x : U8) : Prop := ∀ i, i < x.length → p.data[k + i]? = x[i]?
theorem At.lt {p : ByteArray} {k : Nat} {x : U8} (h : At p k x) {i : Nat} (hi : i < x.length) : k + i < p.size := by
 have := h i hi
 rw [List.getElem?_eq_getElem hi] at this
 exact (Array.getElem?_eq_some_iff.1 this).1
theorem At.le {p : ByteArray} {k : Nat} {x : U8} (h : At p k x) (hk : k ≤ p.size) : k + x.length ≤ p.size := by
 cases hx : x.length with
 | zero => omega
 | succ n => have := h.lt (i := n) (by omega); omega
theorem At.left {p : ByteArray} {k : Nat} {x y : U8} (h : At p k (x ++ y)) : At p k x := fun i hi => by
 rw [h i (by rw [List.length_append]; omega), List.getElem?_append_left hi]
theorem At.right {p : ByteArray} {k : Nat} {x y : U8} (h : At p k (x ++ y)) : At p (k + x.length) y := fun i hi => by
 rw [Nat.add_assoc, h (x.length + i) (by rw [List.length_append]; omega), List.getElem?_append_right (by omega)]
 congr 1; omega
theorem At.get {p : ByteArray} {k : Nat} {x : U8} (h : At p k x) {i : Nat} {c : UInt8} (hc : x[i]? = some c) : p.data[k + i]? = some c := by
 rw [h i (List.getElem?_eq_some_iff.1 hc).1, hc]
def plainB (c : UInt8) : Bool := !([124, 42, 43, 63, 40, 41, 91, 93, 46, 92].contains c)
theorem plainB_ne {c : UInt8} (h : plainB c = true) : c.toNat ≠ 124 ∧ c.toNat ≠ 42 ∧ c.toNat ≠ 43 ∧ c.toNat ≠ 63 ∧ c.toNat ≠ 40 ∧ c.toNat ≠ 41 ∧ c.toNat ≠ 91 ∧ c.toNat ≠ 93 ∧ c.toNat ≠ 46 ∧ c.toNat ≠ 92 := by
 unfold plainB at h
 have hh : ∀ d : UInt8, d ∈ ([124, 42, 43, 63, 40, 41, 91, 93, 46, 92] : List UInt8) → c.toNat ≠ d.toNat := fun d hd e => by
  have : c = d := UInt8.toNat_inj.1 e
  subst this
  have : ([124, 42, 43, 63, 40, 41, 91, 93, 46, 92] : List UInt8).contains c = true := List.contains_iff_mem.2 hd
  rw [this] at h
  cases h
 exact ⟨hh 124 (by decide), hh 42 (by decide), hh 43 (by decide), hh 63 (by decide), hh 40 (by decide), hh 41 (by decide), hh 91 (by decide), hh 93 (by decide), hh 46 (by decide), hh 92 (by decide)⟩
inductive P0 : U8 → Nat → Prop
 | chr (c : UInt8) (h : plainB c = true) : P0 [c] 1
 | esc (c : UInt8) : P0 [92, c] 1
 | dot : P0 [46] 1
 | ac : P0 [91, 97, 45, 99, 93] 1
 | d09 : P0 [91, 48, 45, 57, 93] 1
inductive PS (I : U8 → Nat → Prop) : U8 → Nat → Prop
 | nil : PS I [] 0
 | cons {x y : U8} {w v : Nat} (h : I x w) (t : PS I y v) : PS I (x ++ y) (w + v)
 | star {x y : U8} {w v : Nat} (h0 : P0 x w) (h : I x w) (t : PS I y v) : PS I (x ++ [42] ++ y) (2 * w + v)
inductive PA (I : U8 → Nat → Prop) : U8 → Nat → Prop
 | one {x : U8} {w : Nat} (h : PS I x w) : PA I x w
 | alt {x y : U8} {w v : Nat} (h : PS I x w) (t : PA I y v) : PA I (x ++ [124] ++ y) (max w v)
def PI : Nat → U8 → Nat → Prop
 | 0, x, w => P0 x w
 | d + 1, x, w => P0 x w ∨ ∃ y, x = [40] ++ y ++ [41] ∧ PA (PI d) y w
theorem PI.p0 {d : Nat} {x : U8} {w : Nat} (h : P0 x w) : PI d x w := by
 cases d with
 | zero => exact h
 | succ d => exact .inl h
theorem PI.par {d : Nat} {x : U8} {w : Nat} (h : PA (PI d) x w) : PI (d + 1) ([40] ++ x ++ [41]) w := .inr ⟨x, rfl, h⟩
theorem PS.mono {I J : U8 → Nat → Prop} (hij : ∀ x w, I x w → J x w) {x : U8} {w : Nat} (h : PS I x w) : PS J x w := by
 induction h with
 | nil => exact .nil
 | cons h _ ih => exact .cons (hij _ _ h) ih
 | star h0 h _ ih => exact .star h0 (hij _ _ h) ih
theorem PA.mono {I J : U8 → Nat → Prop} (hij : ∀ x w, I x w → J x w) {x : U8} {w : Nat} (h : PA I x w) : PA J x w := by
 induction h with
 | one h => exact .one (h.mono hij)
 | alt h _ ih => exact .alt (h.mono hij) ih
theorem PI.succ : ∀ {d : Nat} {x : U8} {w : Nat}, PI d x w → PI (d + 1) x w
 | 0, _, _, h => .inl h
 | d + 1, _, _, .inl h => .inl h
 | d + 1, _, _, .inr ⟨y, e, h⟩ => .inr ⟨y, e, h.mono fun _ _ h => PI.succ h⟩
theorem PI.le {d e : Nat} (hde : d ≤ e) {x : U8} {w : Nat} (h : PI d x w) : PI e x w := by
 induction hde with
 | refl => exact h
 | step _ ih => exact ih.succ
abbrev Sm := ByteArray → Int → List Int → Option (ByteArray × Int × List Int)
theorem j_getB {β : Type} {s : ByteArray} {k : Nat} {f : UInt8 → Option β} {R : β → Prop} {c : UInt8} (hc : s.data[k]? = some c) (h : sat (f c) R) : sat (getB s (k : Int) f) R := by
 unfold getB
 rw [if_pos (by omega), Int.toNat_natCast, hc]
 exact h
def Mt (f : Sm) (p : ByteArray) (k w q : Nat) : Prop := ∀ l, sat (f p (k : Int) l) fun r => r.1.size ≤ w ∧ r.2.1 = (q : Int)
theorem cast1 (k : Nat) (h : k ≤ 100000) : IntKind.wrap .i64 ((k : Int) + 1) = ((k + 1 : Nat) : Int) := by rw [wrap_id (by omega) (by omega)]; omega
theorem cond_ne {α : Type} {a b : Int} {A B : Option α} {R : α → Prop} (h : a ≠ b) (k : sat B R) : sat (cond (a == b) A B) R := by
 have : (a == b) = false := by simpa using h
 rw [this]; exact k
theorem cond_eq {α : Type} {a b : Int} {A B : Option α} {R : α → Prop} (h : a = b) (k : sat A R) : sat (cond (a == b) A B) R := by
 subst h
 rw [beq_self_eq_true]; exact k
theorem cond_nn {α : Type} {a b : Int} {A B : Option α} {R : α → Prop} (h : a ≠ b) (k : sat A R) : sat (cond (a != b) A B) R := by
 have : (a != b) = true := by simpa using h
 rw [this]; exact k
theorem cond_ee {α : Type} {a b : Int} {A B : Option α} {R : α → Prop} (h : a = b) (k : sat B R) : sat (cond (a != b) A B) R := by
 have : (a != b) = false := by simpa using h
 rw [this]; exact k
theorem byte_tot {p : ByteArray} {k : Nat} {c : UInt8} (hk : k ≤ 1000) (hc : p.data[k]? = some c) (hn : c.toNat ≠ 92) (l : List Int) : f164 p (k : Int) l = some ((c.toNat : Int), ((k + 1 : Nat) : Int)) := by
 have h1 : getB p (k : Int) = fun (f : UInt8 → Option (Sum (Int × Int) Int)) => f c := by
  funext f
  unfold getB
  rw [if_pos (by omega), Int.toNat_natCast, hc]
 have h2 : getB p (k : Int) = fun (f : UInt8 → Option (Int × Int)) => f c := by
  funext f
  unfold getB
  rw [if_pos (by omega), Int.toNat_natCast, hc]
 have h3 : ((c.toNat : Int) == 92) = false := by simp; omega
 unfold f164
 dsimp only
 rw [h1]
 simp only [h3, cond_false, sbind, cast1 k (by omega)]
 rw [show IntKind.wrap .i64 (((k + 1 : Nat) : Int) - 1) = (k : Int) by rw [wrap_id (by omega) (by omega)]; omega, h2]
def cset (a b : Nat) : List Bool := (List.range 256).map fun i => decide (a ≤ i ∧ i ≤ b)
theorem cl10_ac (n : Nat) (v : Int) : f153_L10 99 v (n + 300) (List.replicate 256 false) (IntKind.wrap .i64 97) = some (.inr (v, cset 97 99)) := by kernel_rfl
theorem cl10_09 (n : Nat) (v : Int) : f153_L10 57 v (n + 300) (List.replicate 256 false) (IntKind.wrap .i64 48) = some (.inr (v, cset 48 57)) := by kernel_rfl
theorem cl12_ac : f153_L12 (cset 97 99) ((256 : Int) - 0).toNat 0 [] = some (.inr [97, 98, 99]) := by kernel_rfl
theorem cl12_09 : f153_L12 (cset 48 57) ((256 : Int) - 0).toNat 0 [] = some (.inr [48, 49, 50, 51, 52, 53, 54, 55, 56, 57]) := by kernel_rfl
theorem class_tot {p : ByteArray} {k : Nat} {a b : UInt8} {L : List Int} (n : Nat) (hk : k ≤ 900) (h : At p k [a, 45, b, 93]) (ha : a.toNat ≠ 94 ∧ a.toNat ≠ 93 ∧ a.toNat ≠ 92) (hb : b.toNat ≠ 92)
 (h10 : ∀ (m : Nat) (v : Int), f153_L10 (b.toNat : Int) v (m + 300) (List.replicate 256 false) (IntKind.wrap .i64 (a.toNat : Int)) = some (.inr (v, cset a.toNat b.toNat)))
 (h12 : f153_L12 (cset a.toNat b.toNat) ((256 : Int) - 0).toNat 0 [] = some (.inr L)) (hL : L ≠ []) (hL2 : L.length ≤ 256) :
 Mt (f153 (n + 301)) p k 1 (k + 4) := by
 intro l
 have g0 := h.get (i := 0) (c := a) rfl
 have g1 := h.get (i := 1) (c := 45) rfl
 have g2 := h.get (i := 2) (c := b) rfl
 have g3 := h.get (i := 3) (c := 93) rfl
 rw [Nat.add_zero] at g0
 have hpos := List.length_pos_iff.2 hL
 unfold f153
 refine j_getB g0 (cond_ne (by omega) ?_)
 refine i_sbind (sat_mk ?_)
 refine i_sbind (sat_mono (R := fun o => o = .inr (((k + 3 : Nat) : Int), cset a.toNat b.toNat)) ?_ ?_)
 · show sat (f153_L8 (n + 301) p l (n + 301) (List.replicate 256 false) (k : Int)) _
   refine j_getB g0 (cond_nn (by omega) (i_sbind ?_))
   rw [byte_tot (by omega) g0 (by omega) l]
   refine i_sbind ?_
   refine j_getB g1 (cond_eq rfl ?_)
   rw [show (((k : Nat) + 1 : Nat) : Int) + 1 = ((k + 1 : Nat) : Int) + 1 from rfl, cast1 (k + 1) (by omega), byte_tot (by omega) g2 hb l]
   refine sat_mk ?_
   show sat (f153_L10 (b.toNat : Int) ((k + 2 + 1 : Nat) : Int) (n + 301) (List.replicate 256 false) (IntKind.wrap .i64 (a.toNat : Int))) _
   rw [show n + 301 = (n + 1) + 300 by omega, h10 (n + 1)]
   refine sat_mk ?_
   show sat (f153_L8 (n + 301) p l (n + 300) (cset a.toNat b.toNat) ((k + 3 : Nat) : Int)) _
   refine j_getB g3 (cond_ee rfl (sat_mk rfl))
 · rintro _ rfl
   refine i_sbind (i_grdP (by decide) ?_)
   rw [h12]
   refine sat_mk ?_
   refine i_call (next_tot _ _ (by omega)) fun r hr => ?_
   obtain ⟨v, l'⟩ := r
   dsimp only at hr
   refine i_grdP (by omega) (i_getN (by omega) fun u _ _ => sat_mk ⟨Nat.le_of_eq rfl, ?_⟩)
   show IntKind.wrap .i64 (((k + 3 : Nat) : Int) + 1) = ((k + 4 : Nat) : Int)
   rw [cast1 _ (by omega)]
theorem mI {n : Nat} {p : ByteArray} {k w q : Nat} (h : Mt (b131 n (f82 n)) p k w q) : Mt (f131 (n + 1)) p k w q := h
theorem mA {n : Nat} {p : ByteArray} {k w q : Nat} (h : Mt (b82 n (f104 n)) p k w q) : Mt (f82 (n + 1)) p k w q := h
theorem p0_tot {x : U8} {w : Nat} (h : P0 x w) {p : ByteArray} {k : Nat} (hs : p.size ≤ 900) (hp : At p k x) (n : Nat) (A : Sm) : Mt (b131 (n + 301) A) p k w (k + x.length) := by
 intro l
 cases h with
 | chr c hc =>
  obtain ⟨h1, h2, h3, h4, h5, h6, h7, h8, h9, h10⟩ := plainB_ne hc
  have g := hp.get (i := 0) (c := c) rfl
  have hk := hp.lt (i := 0) (by simp)
  rw [Nat.add_zero] at g hk
  refine j_getB g (cond_ne (by omega) (cond_ne (by omega) (cond_ne (by omega) (cond_ne (by omega) (sat_mk ⟨Nat.le_of_eq rfl, ?_⟩)))))
  exact cast1 k (by omega)
 | esc c =>
  have g := hp.get (i := 0) (c := 92) rfl
  have g1 := hp.get (i := 1) (c := c) rfl
  have hk := hp.lt (i := 0) (by simp)
  rw [Nat.add_zero] at g hk
  refine j_getB g (cond_ne (by decide) (cond_ne (by decide) (cond_ne (by decide) (cond_eq rfl ?_))))
  rw [cast1 k (by omega)]
  refine j_getB g1 (sat_mk ⟨Nat.le_of_eq rfl, ?_⟩)
  exact cast1 (k + 1) (by omega)
 | dot =>
  have g := hp.get (i := 0) (c := 46) rfl
  have hk := hp.lt (i := 0) (by simp)
  rw [Nat.add_zero] at g hk
  refine j_getB g (cond_ne (by decide) (cond_eq rfl (i_call (pickS_tot _ _ (by simp) (by simp)) fun r hr => ?_)))
  obtain ⟨s, l'⟩ := r
  simp only [List.mem_cons, List.not_mem_nil, or_false] at hr
  refine sat_mk ⟨?_, cast1 k (by omega)⟩
  rcases hr with rfl | rfl | rfl | rfl | rfl <;> exact Nat.le_refl _
 | ac =>
  have g := hp.get (i := 0) (c := 91) rfl
  have hk := hp.lt (i := 0) (by simp)
  rw [Nat.add_zero] at g hk
  refine j_getB g (cond_ne (by decide) (cond_ne (by decide) (cond_eq rfl ?_)))
  rw [cast1 k (by omega)]
  refine i_call (class_tot (a := 97) (b := 99) (L := [97, 98, 99]) n (show k + 1 ≤ 900 by omega) (At.right (x := [91]) hp) (by decide) (by decide) (fun m v => cl10_ac m v) cl12_ac (by simp) (by simp) l) fun r hr => ?_
  obtain ⟨s, v, l'⟩ := r
  exact sat_mk ⟨hr.1, hr.2⟩
 | d09 =>
  have g := hp.get (i := 0) (c := 91) rfl
  have hk := hp.lt (i := 0) (by simp)
  rw [Nat.add_zero] at g hk
  refine j_getB g (cond_ne (by decide) (cond_ne (by decide) (cond_eq rfl ?_)))
  rw [cast1 k (by omega)]
  refine i_call (class_tot (a := 48) (b := 57) (L := [48, 49, 50, 51, 52, 53, 54, 55, 56, 57]) n (show k + 1 ≤ 900 by omega) (At.right (x := [91]) hp) (by decide) (by decide) (fun m v => cl10_09 m v) cl12_09 (by simp) (by simp) l) fun r hr => ?_
  obtain ⟨s, v, l'⟩ := r
  exact sat_mk ⟨hr.1, hr.2⟩
theorem m10_tot (I : Sm) (p : ByteArray) (k w q nx : Nat) (hw : w ≤ 1000) (hI : Mt I p k w q) :
 ∀ (g : Nat) (x : Int) (acc s : ByteArray) (l : List Int), s.size ≤ w → acc.size + g * w ≤ 1000000 →
  sat (f104_L10 I p (k : Int) (nx : Int) g x acc s l) fun o => ∃ acc' l', o = .inr (acc', (nx : Int), l') ∧ acc'.size ≤ acc.size + g * w
 | 0, x, acc, s, l, hs, hg => sat_mk ⟨_, _, rfl, by omega⟩
 | g + 1, x, acc, s, l, hs, hg => by
  rw [Nat.succ_mul] at hg
  refine i_cond (fun _ => i_call (hI l) fun r hr => ?_) (fun _ => i_grdP (by omega) (sat_mono (m10_tot I p k w q nx hw hI g _ _ _ _ hs (by rw [ByteArray.size_append]; omega)) ?_))
  · obtain ⟨s2, v, l2⟩ := r
    dsimp only at hr
    refine i_grdP (by omega) (sat_mono (m10_tot I p k w q nx hw hI g _ _ _ _ hr.1 (by rw [ByteArray.size_append]; omega)) ?_)
    rintro o ⟨acc', l', rfl, h⟩
    rw [ByteArray.size_append] at h
    exact ⟨_, _, rfl, by rw [Nat.succ_mul]; omega⟩
  · rintro o ⟨acc', l', rfl, h⟩
    rw [ByteArray.size_append] at h
    exact ⟨_, _, rfl, by rw [Nat.succ_mul]; omega⟩
def NoRep (p : ByteArray) (q : Nat) : Prop := p.size ≤ q ∨ ∃ d : UInt8, p.data[q]? = some d ∧ d.toNat ≠ 42 ∧ d.toNat ≠ 43 ∧ d.toNat ≠ 63
def SEnd (p : ByteArray) (q : Nat) : Prop := p.size ≤ q ∨ ∃ d : UInt8, p.data[q]? = some d ∧ (d.toNat = 124 ∨ d.toNat = 41)
theorem SEnd.norep {p : ByteArray} {q : Nat} (h : SEnd p q) : NoRep p q := by
 rcases h with h | ⟨d, hd, h⟩
 · exact .inl h
 · exact .inr ⟨d, hd, by omega, by omega, by omega⟩
theorem size_of {p : ByteArray} {k : Nat} {c : UInt8} (h : p.data[k]? = some c) : k < p.size := (Array.getElem?_eq_some_iff.1 h).1
theorem m8_step (I : Sm) (p : ByteArray) (g : Nat) (acc : ByteArray) (k q nx w t : Nat) (l : List Int) (hw : w ≤ 1000) (hacc : acc.size ≤ 100000) (hs : p.size ≤ 900) (hq : q ≤ 1000)
 (c : UInt8) (hc : p.data[k]? = some c) (hcb : c.toNat ≠ 124) (hcp : c.toNat ≠ 41) (hI : Mt I p k w q) (hA : (nx = q + 1 ∧ t = 2 ∧ p.data[q]? = some 42) ∨ (nx = q ∧ t = 1 ∧ NoRep p q))
 {R : Sum (ByteArray × Int × List Int) (ByteArray × Int × List Int) → Prop} (kk : ∀ acc' l', acc'.size ≤ acc.size + t * w → sat (f104_L8 I p g acc' (nx : Int) l') R) :
 sat (f104_L8 I p (g + 1) acc (k : Int) l) R := by
 have hk := size_of hc
 refine i_cond (fun _ => ?_) (fun h => absurd (show (k : Int) < (p.size : Int) by omega) (by simpa using h))
 refine j_getB hc (cond_nn (by omega) (j_getB hc (cond_nn (by omega) (i_sbind (i_call (hI l) fun r hr => ?_)))))
 obtain ⟨s2, v2, l2⟩ := r
 dsimp only at hr
 obtain ⟨hs2, rfl⟩ := hr
 refine i_sbind (sat_mono (R := fun o => ∃ (u : Int) (l' : List Int), o = .inr (u, (nx : Int), l') ∧ 0 ≤ u ∧ u ≤ t) ?_ ?_)
 · rcases hA with ⟨rfl, rfl, hd⟩ | ⟨rfl, rfl, hd⟩
   · refine i_cond (fun _ => j_getB hd (cond_eq rfl (i_call (next_tot _ _ (by omega)) fun r hr => ?_))) (fun h => absurd (show (q : Int) < (p.size : Int) by have := size_of hd; omega) (by simpa using h))
     exact sat_mk ⟨r.1, r.2, by rw [cast1 q (by omega)], hr.1, by omega⟩
   · refine i_cond (fun h => ?_) (fun _ => sat_mk ⟨1, _, rfl, by omega, by omega⟩)
     have hlt : (nx : Int) < (p.size : Int) := by simpa using h
     rcases hd with hd | ⟨d, hd, n1, n2, n3⟩
     · omega
     exact j_getB hd (cond_ne (by omega) (cond_ne (by omega) (cond_ne (by omega) (sat_mk ⟨1, _, rfl, by omega, by omega⟩))))
 rintro _ ⟨u, l', rfl, ht0, ht3⟩
 have hu : (u - 0).toNat * w ≤ t * w := Nat.mul_le_mul_right _ (by omega)
 have ht : t * w ≤ 2000 := by
  have : t * w ≤ 2 * w := Nat.mul_le_mul_right _ (by rcases hA with ⟨_, h, _⟩ | ⟨_, h, _⟩ <;> omega)
  omega
 refine i_grdP (by rcases hA with ⟨_, h, _⟩ | ⟨_, h, _⟩ <;> omega) (sat_mono (m10_tot I p k w q nx hw hI _ _ _ _ _ hs2 (by omega)) ?_)
 rintro o ⟨acc', l3, rfl, h⟩
 exact kk acc' l3 (by omega)
theorem m8_end (I : Sm) (p : ByteArray) (g : Nat) (acc : ByteArray) (k : Nat) (l : List Int) (h : SEnd p k)
 {R : Sum (ByteArray × Int × List Int) (ByteArray × Int × List Int) → Prop} (kk : R (.inr (acc, (k : Int), l))) : sat (f104_L8 I p (g + 1) acc (k : Int) l) R := by
 rcases h with h | ⟨c, hc, h⟩
 · exact i_cond (fun hh => absurd (by simpa using hh) (show ¬ (k : Int) < (p.size : Int) by omega)) (fun _ => sat_mk kk)
 · refine i_cond (fun _ => ?_) (fun _ => sat_mk kk)
   refine j_getB hc (i_cond (fun h5 => ?_) (fun _ => sat_mk kk))
   refine j_getB hc (i_cond (fun h6 => ?_) (fun _ => sat_mk kk))
   simp at h5 h6
   omega
def Hd (x : U8) : Prop := ∃ c r, x = c :: r ∧ c.toNat ≠ 124 ∧ c.toNat ≠ 41 ∧ c.toNat ≠ 42 ∧ c.toNat ≠ 43 ∧ c.toNat ≠ 63
theorem P0.hd {x : U8} {w : Nat} (h : P0 x w) : Hd x := by
 cases h with
 | chr c hc => obtain ⟨h1, h2, h3, h4, h5, h6, _⟩ := plainB_ne hc; exact ⟨c, [], rfl, h1, h6, h2, h3, h4⟩
 | _ => exact ⟨_, _, rfl, by decide, by decide, by decide, by decide, by decide⟩
theorem PI.hd {d : Nat} {x : U8} {w : Nat} (h : PI d x w) : Hd x := by
 cases d with
 | zero => exact P0.hd h
 | succ d =>
  rcases h with h | ⟨y, rfl, h⟩
  · exact h.hd
  · exact ⟨40, _, rfl, by decide, by decide, by decide, by decide, by decide⟩
theorem PS.norep {I : U8 → Nat → Prop} (hI : ∀ x w, I x w → Hd x) {y : U8} {v : Nat} (h : PS I y v) {p : ByteArray} {k : Nat} (hp : At p k y) (he : SEnd p (k + y.length)) : NoRep p k := by
 have go : ∀ {x z : U8} {w : Nat}, I x w → At p k (x ++ z) → NoRep p k := fun {x z w} hx hp => by
  obtain ⟨c, r, rfl, h1, h2, h3, h4, h5⟩ := hI _ _ hx
  have := hp.get (i := 0) (c := c) rfl
  exact .inr ⟨c, this, h3, h4, h5⟩
 cases h with
 | nil => exact he.norep
 | cons h t => exact go h hp
 | star h0 h t => rw [List.append_assoc] at hp; exact go h hp
theorem seq_tot (n : Nat) (p : ByteArray) (hs : p.size ≤ 900) (J : Sm) (I : U8 → Nat → Prop) (hI : ∀ x w, I x w → Hd x) (hJ : ∀ x w k, I x w → w ≤ 1000 → At p k x → Mt J p k w (k + x.length)) :
 ∀ {y : U8} {v : Nat}, PS I y v → ∀ (k g : Nat) (acc : ByteArray) (l : List Int), v ≤ 1000 → acc.size + v ≤ 50000 → At p k y → SEnd p (k + y.length) → y.length < g → k ≤ 900 →
  sat (f104_L8 J p g acc (k : Int) l) fun o => ∃ acc' l', o = .inr (acc', ((k + y.length : Nat) : Int), l') ∧ acc'.size ≤ acc.size + v := by
 intro y v h
 induction h with
 | nil =>
  intro k g acc l hv ha hp he hg hk
  obtain ⟨g, rfl⟩ : ∃ g', g = g' + 1 := ⟨g - 1, by omega⟩
  exact m8_end J p g acc k l he ⟨_, _, rfl, by omega⟩
 | @cons x y w v h t ih =>
  intro k g acc l hv ha hp he hg hk
  obtain ⟨c, r, hx, h1, h2, _⟩ := hI _ _ h
  have hxl : 0 < x.length := by rw [hx]; simp
  obtain ⟨g, rfl⟩ : ∃ g', g = g' + 1 := ⟨g - 1, by omega⟩
  rw [List.length_append] at hg he
  have hc : p.data[k]? = some c := by have := hp.left.get (i := 0) (c := c) (by rw [hx]; rfl); exact this
  have hle := hp.left.le (by have := size_of hc; omega)
  refine m8_step J p g acc k (k + x.length) (k + x.length) w 1 l (by omega) (by omega) hs (by omega) c hc h1 h2 (hJ _ _ _ h (by omega) hp.left) (.inr ⟨rfl, rfl, t.norep hI hp.right (by rw [Nat.add_assoc]; exact he)⟩) fun acc' l' ha' => ?_
  refine sat_mono (ih (k + x.length) g acc' l' (by omega) (by omega) hp.right (by rw [Nat.add_assoc]; exact he) (by omega) (by omega)) ?_
  rintro o ⟨a, l2, rfl, hh⟩
  exact ⟨a, l2, by rw [List.length_append, Nat.add_assoc], by omega⟩
 | @star x y w v h0 h t ih =>
  intro k g acc l hv ha hp he hg hk
  obtain ⟨c, r, hx, h1, h2, _⟩ := hI _ _ h
  have hxl : 0 < x.length := by rw [hx]; simp
  obtain ⟨g, rfl⟩ : ∃ g', g = g' + 1 := ⟨g - 1, by omega⟩
  rw [List.length_append, List.length_append, List.length_singleton] at hg he
  have hc : p.data[k]? = some c := by have := hp.left.left.get (i := 0) (c := c) (by rw [hx]; rfl); exact this
  have hst : p.data[k + x.length]? = some 42 := by have := hp.left.right.get (i := 0) (c := 42) rfl; exact this
  have hlt := size_of hst
  have hr : At p (k + x.length + 1) y := by have := hp.right; rw [List.length_append, List.length_singleton, ← Nat.add_assoc] at this; exact this
  refine m8_step J p g acc k (k + x.length) (k + x.length + 1) w 2 l (by omega) (by omega) hs (by omega) c hc h1 h2 (hJ _ _ _ h (by omega) hp.left.left) (.inl ⟨rfl, rfl, hst⟩) fun acc' l' ha' => ?_
  refine sat_mono (ih (k + x.length + 1) g acc' l' (by omega) (by omega) hr (by rw [show k + x.length + 1 + y.length = k + (x.length + 1 + y.length) by omega]; exact he) (by omega) (by omega)) ?_
  rintro o ⟨a, l2, rfl, hh⟩
  exact ⟨a, l2, by rw [List.length_append, List.length_append, List.length_singleton]; congr 4; omega, by omega⟩
theorem alt_tot (n : Nat) (p : ByteArray) (hs : p.size ≤ 900) (I : U8 → Nat → Prop) (hI : ∀ x w, I x w → Hd x) (S : Sm)
 (hS : ∀ (y : U8) (v k : Nat), PS I y v → v ≤ 1000 → At p k y → SEnd p (k + y.length) → k ≤ 900 → Mt S p k v (k + y.length)) :
 ∀ {y : U8} {v : Nat}, PA I y v → ∀ (k g : Nat) (l : List Int) (acc : List ByteArray) (M : Nat), v ≤ 1000 → At p k y → (p.size ≤ k + y.length ∨ p.data[k + y.length]? = some 41) → k ≤ 900 → y.length < g → acc.length + y.length ≤ 2000 → v ≤ M → (∀ a, a ∈ acc → a.size ≤ M) →
  sat ((S p (k : Int) l).bind fun r => match r with | (s4, v5, l6) => f82_L2 S p g (acc ++ [s4]) v5 l6) fun o => ∃ a l', o = .inr (((k + y.length : Nat) : Int), a, l') ∧ a ≠ [] ∧ a.length ≤ 3000 ∧ ∀ b, b ∈ a → b.size ≤ M := by
 intro y v h
 induction h with
 | @one x w h =>
  intro k g l acc M hv hp he hk hg hacc hM ha
  obtain ⟨g, rfl⟩ : ∃ g', g = g' + 1 := ⟨g - 1, by omega⟩
  have hse : SEnd p (k + x.length) := he.imp id fun h => ⟨41, h, .inr rfl⟩
  refine i_call (hS x w k h hv hp hse hk l) fun r hr => ?_
  obtain ⟨s, q, l'⟩ := r
  dsimp only at hr
  obtain ⟨h1, rfl⟩ := hr
  have fin : ∃ a l2, (Sum.inr (((k + x.length : Nat) : Int), acc ++ [s], l') : Sum (ByteArray × Int × List Int) (Int × List ByteArray × List Int)) = .inr (((k + x.length : Nat) : Int), a, l2) ∧ a ≠ [] ∧ a.length ≤ 3000 ∧ ∀ b, b ∈ a → b.size ≤ M :=
   ⟨_, _, rfl, by simp, by simp; omega, fun b hb => by
    rcases List.mem_append.1 hb with hb | hb
    · exact ha b hb
    · obtain rfl := List.mem_singleton.1 hb; omega⟩
  refine i_cond (fun hlt => ?_) (fun _ => sat_mk fin)
  have hlt : ((k + x.length : Nat) : Int) < (p.size : Int) := by simpa using hlt
  rcases he with he | he
  · omega
  · exact j_getB he (cond_ne (by decide) (sat_mk fin))
 | @alt x y w v h t ih =>
  intro k g l acc M hv hp he hk hg hacc hM ha
  obtain ⟨g, rfl⟩ : ∃ g', g = g' + 1 := ⟨g - 1, by omega⟩
  rw [List.length_append, List.length_append, List.length_singleton] at hg hacc he
  have hb : p.data[k + x.length]? = some 124 := by have := hp.left.right.get (i := 0) (c := 124) rfl; exact this
  have hlt := size_of hb
  have hr : At p (k + x.length + 1) y := by have := hp.right; rw [List.length_append, List.length_singleton, ← Nat.add_assoc] at this; exact this
  refine i_call (hS x w k h (by omega) hp.left.left (.inr ⟨124, hb, .inl rfl⟩) hk l) fun r hr' => ?_
  obtain ⟨s, q, l'⟩ := r
  dsimp only at hr'
  obtain ⟨h1, rfl⟩ := hr'
  refine i_cond (fun _ => ?_) (fun h => absurd (show ((k + x.length : Nat) : Int) < (p.size : Int) by omega) (by simpa using h))
  refine j_getB hb (cond_eq rfl ?_)
  rw [cast1 _ (by omega)]
  have hnext := ih (k + x.length + 1) g l' (acc ++ [s]) M (by omega) hr (by rw [show k + x.length + 1 + y.length = k + (x.length + 1 + y.length) by omega]; exact he) (by omega) (by omega) (by simp; omega) (by omega)
   (fun b hb => by
    rcases List.mem_append.1 hb with hb | hb
    · exact ha b hb
    · obtain rfl := List.mem_singleton.1 hb; omega)
  have hx : sat ((S p ((k + x.length + 1 : Nat) : Int) l').bind fun r => match r with | (s56, v57, l58) => grdP ((acc ++ [s]).length + ([s56] : List ByteArray).length ≤ 68719476736) (f82_L2 S p g ((acc ++ [s]) ++ ([s56] : List ByteArray)) v57 l58))
   fun o => ∃ a l', o = .inr (((k + x.length + 1 + y.length : Nat) : Int), a, l') ∧ a ≠ [] ∧ a.length ≤ 3000 ∧ ∀ b, b ∈ a → b.size ≤ M := by
   refine sat_mono ?_ fun _ h => h
   obtain ⟨r, h1, h2⟩ := hnext
   refine ⟨r, ?_, h2⟩
   rw [← h1]
   cases S p ((k + x.length + 1 : Nat) : Int) l' with
   | none => rfl
   | some z =>
    obtain ⟨z1, z2, z3⟩ := z
    show grdP _ _ = _
    unfold grdP
    rw [if_pos (by simp; omega)]
    rfl
  refine sat_mono hx ?_
  rintro o ⟨a, l2, rfl, h⟩
  exact ⟨a, l2, by rw [List.length_append, List.length_append, List.length_singleton]; congr 3; omega, h⟩
theorem item_tot : ∀ (d : Nat) (x : U8) (w k : Nat) (p : ByteArray), p.size ≤ 900 → PI d x w → w ≤ 1000 → At p k x → ∀ n, Mt (f131 (n + 302 + 1000 * (d + 1))) p k w (k + x.length) := by
 have base : ∀ (x : U8) (w k : Nat) (p : ByteArray), p.size ≤ 900 → P0 x w → At p k x → ∀ m, Mt (f131 (m + 302)) p k w (k + x.length) := fun x w k p hs h hp m => mI (n := m + 301) (p0_tot h hs hp m _)
 intro d
 induction d with
 | zero => intro x w k p hs h hw hp n; rw [show n + 302 + 1000 * (0 + 1) = (n + 1000) + 302 by omega]; exact base x w k p hs h hp _
 | succ d ih =>
  intro x w k p hs h hw hp n
  rcases h with h | ⟨y, rfl, h⟩
  · rw [show n + 302 + 1000 * (d + 1 + 1) = (n + 1000 * (d + 1 + 1)) + 302 by omega]; exact base x w k p hs h hp _
  · have hk : p.data[k]? = some 40 := by have := hp.left.left.get (i := 0) (c := 40) rfl; exact this
    have hkl := size_of hk
    have hpy : At p (k + 1) y := hp.left.right
    have hend : p.data[k + 1 + y.length]? = some 41 := by have := hp.right.get (i := 0) (c := 41) rfl; rw [List.length_append, List.length_singleton] at this; rw [Nat.add_assoc]; exact this
    have hel := size_of hend
    obtain ⟨N, hN⟩ : ∃ N, N = n + 302 + 1000 * (d + 1) + 997 := ⟨_, rfl⟩
    have hNe : n + 302 + 1000 * (d + 1 + 1) = N + 3 := by omega
    rw [hNe]
    have hJ : ∀ (x : U8) (w k : Nat), PI d x w → w ≤ 1000 → At p k x → Mt (f131 N) p k w (k + x.length) := fun x w k h hw hp => by
     have := ih x w k p hs h hw hp (n + 997)
     have e : n + 997 + 302 + 1000 * (d + 1) = N := by omega
     rw [e] at this
     exact this
    have hS : ∀ (y : U8) (v k : Nat), PS (PI d) y v → v ≤ 1000 → At p k y → SEnd p (k + y.length) → k ≤ 900 → Mt (f104 (N + 1)) p k v (k + y.length) := by
     intro y v k h hv hp he hk l
     have hyl : y.length ≤ 900 := by
      by_cases h0 : y.length = 0
      · omega
      · have := hp.lt (i := y.length - 1) (by omega); omega
     refine i_sbind (sat_mono (seq_tot n p hs (f131 N) (PI d) (fun _ _ h => h.hd) hJ h k N _ l hv (by show (0 : Nat) + v ≤ 50000; omega) hp he (by omega) hk) ?_)
     rintro o ⟨a, l', rfl, ha⟩
     refine sat_mk ⟨?_, rfl⟩
     have : (⟨#[]⟩ : ByteArray).size = 0 := rfl
     show a.size ≤ v
     omega
    have hA : Mt (f82 (N + 2)) p (k + 1) w (k + 1 + y.length) := by
     intro l
     have := alt_tot n p hs (PI d) (fun _ _ h => h.hd) (f104 (N + 1)) hS h (k + 1) (N + 1) l [] w hw hpy (.inr hend) (by omega) (by omega) (by simp; omega) (Nat.le_refl _) (fun a ha => by cases ha)
     show sat (b82 (N + 1) (f104 (N + 1)) p ((k + 1 : Nat) : Int) l) _
     unfold b82
     refine i_call (sat_bind this) fun r hr => ?_
     obtain ⟨s4, v5, l6⟩ := r
     refine i_sbind (sat_mono hr ?_)
     rintro o ⟨a, l', rfl, hne, hal, hsz⟩
     have := List.length_pos_iff.2 hne
     refine i_call (next_tot _ _ (by omega)) fun r hr => ?_
     obtain ⟨i, l2⟩ := r
     dsimp only at hr
     exact i_grdP (by omega) (i_getN (by omega) fun u hu _ => sat_mk ⟨hsz u hu, rfl⟩)
    refine mI (n := N + 2) ?_
    intro l
    refine j_getB hk (cond_eq rfl ?_)
    rw [cast1 k (by omega)]
    refine i_call (hA l) fun r hr => ?_
    obtain ⟨s, v, l'⟩ := r
    dsimp only at hr
    obtain ⟨h1, rfl⟩ := hr
    refine sat_mk ⟨h1, ?_⟩
    show IntKind.wrap .i64 (((k + 1 + y.length : Nat) : Int) + 1) = _
    rw [cast1 _ (by omega)]
    simp
    omega
def Pat (d : Nat) (p : ByteArray) (w : Nat) : Prop := p.size ≤ 900 ∧ w ≤ 1000 ∧ PA (PI d) p.data.toList w
theorem Pat.sample {d : Nat} {p : ByteArray} {w : Nat} (h : Pat d p w) (n : Nat) (l : List Int) : sat (f65 (n + 301 + 1000 * (d + 2)) p l) fun r => r.1.size ≤ w := by
 obtain ⟨hs, hw, h⟩ := h
 have hp : At p 0 p.data.toList := fun i hi => by rw [Nat.zero_add, Array.getElem?_toList]
 obtain ⟨N, hN⟩ : ∃ N, N = n + 302 + 1000 * (d + 1) + 997 := ⟨_, rfl⟩
 have hNe : n + 301 + 1000 * (d + 2) = N + 2 := by omega
 rw [hNe]
 have hlen : p.data.toList.length = p.size := Array.length_toList
 have hJ : ∀ (x : U8) (w k : Nat), PI d x w → w ≤ 1000 → At p k x → Mt (f131 N) p k w (k + x.length) := fun x w k h hw hp => by
  have := item_tot d x w k p hs h hw hp (n + 997)
  have e : n + 997 + 302 + 1000 * (d + 1) = N := by omega
  rw [e] at this
  exact this
 have hS : ∀ (y : U8) (v k : Nat), PS (PI d) y v → v ≤ 1000 → At p k y → SEnd p (k + y.length) → k ≤ 900 → Mt (f104 (N + 1)) p k v (k + y.length) := by
  intro y v k h hv hp he hk l
  have hyl : y.length ≤ 900 := by
   by_cases h0 : y.length = 0
   · omega
   · have := hp.lt (i := y.length - 1) (by omega); omega
  refine i_sbind (sat_mono (seq_tot n p hs (f131 N) (PI d) (fun _ _ h => h.hd) hJ h k N _ l hv (by show (0 : Nat) + v ≤ 50000; omega) hp he (by omega) hk) ?_)
  rintro o ⟨a, l', rfl, ha⟩
  refine sat_mk ⟨?_, rfl⟩
  have : (⟨#[]⟩ : ByteArray).size = 0 := rfl
  show a.size ≤ v
  omega
 have := alt_tot n p hs (PI d) (fun _ _ h => h.hd) (f104 (N + 1)) hS h 0 (N + 1) l [] w hw hp (.inl (by omega)) (by omega) (by omega) (by rw [List.length_nil]; omega) (Nat.le_refl _) (fun a ha => by cases ha)
 unfold f65
 refine i_call (Q := fun r => r.1.size ≤ w) ?_ fun r hr => ?_
 · show sat (b82 (N + 1) (f104 (N + 1)) p ((0 : Nat) : Int) l) _
   unfold b82
   refine i_call (sat_bind this) fun r hr => ?_
   obtain ⟨s4, v5, l6⟩ := r
   refine i_sbind (sat_mono hr ?_)
   rintro o ⟨a, l', rfl, hne, hal, hsz⟩
   have := List.length_pos_iff.2 hne
   refine i_call (next_tot _ _ (by omega)) fun r hr => ?_
   obtain ⟨i, l2⟩ := r
   dsimp only at hr
   exact i_grdP (by omega) (i_getN (by omega) fun u hu _ => sat_mk (hsz u hu))
 · obtain ⟨s, v, l'⟩ := r
   exact sat_mk hr
end Go.Clap
