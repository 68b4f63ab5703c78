/- The checks of the small code against the loaded functions. -/
import Derived.Test.YtnielhfaioakkaaGreatClapM1
set_option linter.unusedVariables false
set_option linter.unusedSimpArgs false
set_option maxRecDepth 100000
namespace Go.Clap
theorem P0.w {x : U8} {w : Nat} (h : P0 x w) : w = 1 ∧ 1 ≤ x.length := by cases h <;> exact ⟨rfl, by simp⟩
theorem PS.mono' {I J : U8 → Nat → Prop} {x : U8} {w : Nat} (h : PS I x w) (hij : ∀ y v, I y v → y.length ≤ x.length → J y v) : PS J x w := by
 induction h with
 | nil => exact .nil
 | @cons x y w v h _ ih => exact .cons (hij _ _ h (by simp)) (ih fun z u h hl => hij z u h (by simp; omega))
 | @star x y w v h0 h _ ih => exact .star h0 (hij _ _ h (by simp)) (ih fun z u h hl => hij z u h (by simp; omega))
theorem PA.mono' {I J : U8 → Nat → Prop} {x : U8} {w : Nat} (h : PA I x w) (hij : ∀ y v, I y v → y.length ≤ x.length → J y v) : PA J x w := by
 induction h with
 | one h => exact .one (h.mono' hij)
 | @alt x y w v h _ ih => exact .alt (h.mono' fun z u h hl => hij z u h (by simp; omega)) (ih fun z u h hl => hij z u h (by simp; omega))
theorem PS.w {I : U8 → Nat → Prop} {x : U8} {w : Nat} (h : PS I x w) (hI : ∀ y v, I y v → v ≤ y.length) : w ≤ x.length := by
 induction h with
 | nil => simp
 | cons h _ ih => have := hI _ _ h; simp; omega
 | star h0 h _ ih => obtain ⟨h1, h2⟩ := h0.w; simp; omega
theorem PA.w {I : U8 → Nat → Prop} {x : U8} {w : Nat} (h : PA I x w) (hI : ∀ y v, I y v → v ≤ y.length) : w ≤ x.length := by
 induction h with
 | one h => exact h.w hI
 | alt h _ ih => have := h.w hI; simp; omega
theorem PI.w : ∀ {d : Nat} {x : U8} {w : Nat}, PI d x w → w ≤ x.length
 | 0, _, _, h => by obtain ⟨h1, h2⟩ := P0.w h; omega
 | d + 1, _, _, .inl h => by obtain ⟨h1, h2⟩ := P0.w h; omega
 | d + 1, _, _, .inr ⟨y, e, h⟩ => by
  subst e
  have := h.w fun _ _ h => PI.w h
  simp; omega
theorem PI.half : ∀ {d : Nat} {x : U8} {w : Nat}, PI d x w → PI (x.length / 2) x w
 | 0, _, _, h => .p0 h
 | d + 1, _, _, .inl h => .p0 h
 | d + 1, _, _, .inr ⟨y, e, h⟩ => by
  subst e
  have h2 : PA (PI (y.length / 2)) y _ := h.mono' fun z v hz hl => (PI.half hz).le (by omega)
  have := PI.par h2
  rwa [show ([40] ++ y ++ [41] : U8).length / 2 = y.length / 2 + 1 by simp; omega]
def TP (p : ByteArray) : Prop := p.size ≤ 100 ∧ ∃ d w, d ≤ 50 ∧ w ≤ 40 ∧ PA (PI d) p.data.toList w
theorem tsize (p : ByteArray) : p.data.toList.length = p.size := Array.length_toList
theorem TP.sample {p : ByteArray} (h : TP p) (n : Nat) (hn : 60000 ≤ n) (l : List Int) : sat (f65 n p l) fun r => r.1.size ≤ 40 := by
 obtain ⟨hs, d, w, hd, hw, h⟩ := h
 have h1 : Pat d p w := ⟨by omega, by omega, h⟩
 have := h1.sample (n - (301 + 1000 * (d + 2))) l
 rw [show n - (301 + 1000 * (d + 2)) + 301 + 1000 * (d + 2) = n by omega] at this
 exact sat_mono this fun r hr => Nat.le_trans hr hw
theorem TP.small {p : ByteArray} (h : TP p) (hs : p.size ≤ 30) : ∃ w, w ≤ 30 ∧ PA (PI 15) p.data.toList w := by
 obtain ⟨_, d, w, _, _, h⟩ := h
 have hl := tsize p
 refine ⟨w, ?_, h.mono' fun z v hz hl' => (PI.half hz).le (by omega)⟩
 have := h.w fun _ _ h => PI.w h
 omega
theorem PS.i {I : U8 → Nat → Prop} {x : U8} {w : Nat} (h : I x w) : PS I x w := by
 have := PS.cons h .nil
 rwa [List.append_nil, Nat.add_zero] at this
theorem PS.s {I : U8 → Nat → Prop} {x : U8} {w : Nat} (h0 : P0 x w) (h : I x w) : PS I (x ++ [42]) (2 * w) := by
 have := PS.star h0 h .nil
 rwa [List.append_nil, Nat.add_zero] at this
def pAc : U8 := [91, 97, 45, 99, 93, 42]
def p09 : U8 := [91, 48, 45, 57, 93, 42]
theorem ps_ac (d : Nat) : PS (PI d) pAc 2 := PS.s (x := [91, 97, 45, 99, 93]) .ac (.p0 .ac)
theorem ps_09 (d : Nat) : PS (PI d) p09 2 := PS.s (x := [91, 48, 45, 57, 93]) .d09 (.p0 .d09)
theorem pa_glue {d : Nat} {a b : U8} {w v : Nat} (h : PA (PI d) a w) (k : PA (PI d) b v) : PA (PI (d + 1)) ([40] ++ a ++ [41] ++ ([45] ++ ([40] ++ b ++ [41]))) (w + (1 + v)) :=
 .one (.cons (.par h) (.cons (.p0 (.chr 45 rfl)) (PS.i (.par k))))
theorem tp_leaf {p : ByteArray} (h : isPat p) : TP p := by
 rcases h with rfl | rfl | rfl | rfl | rfl
 · exact ⟨by decide, 0, 2, by omega, by omega, .one (PS.s (x := [46]) .dot (.p0 .dot))⟩
 · exact ⟨by decide, 0, 2, by omega, by omega, .one (ps_ac 0)⟩
 · exact ⟨by decide, 1, 5, by omega, by omega, pa_glue (d := 0) (.one (ps_ac 0)) (.one (ps_09 0))⟩
 · exact ⟨by decide, 0, 1, by omega, by omega, .one (PS.i (x := [91, 48, 45, 57, 93]) (.p0 .d09))⟩
 · exact ⟨by decide, 0, 1, by omega, by omega, .alt (x := [97]) (w := 1) (v := 1) (PS.i (.p0 (.chr 97 rfl))) (.alt (x := [98]) (w := 1) (v := 1) (PS.i (.p0 (.chr 98 rfl))) (.one (PS.i (.p0 (.chr 99 rfl)))))⟩
theorem tp_ac : TP ⟨#[91, 97, 45, 99, 93, 42]⟩ := tp_leaf (.inr (.inl rfl))
theorem tp_09 : TP ⟨#[91, 48, 45, 57, 93, 42]⟩ := ⟨by decide, 0, 2, by omega, by omega, .one (ps_09 0)⟩
theorem toList_append (a b : ByteArray) : (a ++ b).data.toList = a.data.toList ++ b.data.toList := by
 rw [ByteArray.data_append, Array.toList_append]
theorem tp_glue {b : ByteArray} (h : TP b) (hs : b.size ≤ 30) {q : ByteArray} (hq : q.data.toList = [40] ++ pAc ++ [41] ++ ([45] ++ ([40] ++ b.data.toList ++ [41]))) : TP q := by
 obtain ⟨w, hw, hp⟩ := h.small hs
 have hl := tsize b
 have hql := tsize q
 refine ⟨?_, 16, 2 + (1 + w), by omega, by omega, ?_⟩
 · rw [← hql, hq]; simp [pAc]; omega
 · rw [hq]; exact pa_glue (.one (ps_ac 15)) hp
end Go.Clap
