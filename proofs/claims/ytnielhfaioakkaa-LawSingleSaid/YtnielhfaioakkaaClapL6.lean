/- The sampler gives a string at each of the makers' patterns, whatever the stream. -/
import Derived.Test.YtnielhfaioakkaaClapL4
set_option linter.unusedVariables false
set_option linter.unusedSimpArgs false
namespace Go.Clap
abbrev Smp := ByteArray → Int → List Int → Option (ByteArray × Int × List Int)

theorem L10_tot (self : Smp) (s1 : ByteArray) (pos nx pos1 : Int) (B : Nat) (hB : B ≤ 1000) (hI : ∀ l, sat (self s1 pos l) fun r => r.1.size ≤ B ∧ r.2.1 = pos1) :
    ∀ (g : Nat) (x : Int) (acc s : ByteArray) (l : List Int), s.size ≤ B → acc.size + g * B ≤ 1000000 →
      sat (f104_sequence_L10 self s1 pos nx g x acc s l) fun o => ∃ acc' l', o = .inr (acc', nx, l') ∧ acc'.size ≤ acc.size + g * B
  | 0, x, acc, s, l, hs, hg => sat_mk ⟨_, _, rfl, by omega⟩
  | g + 1, x, acc, s, l, hs, hg => by
    rw [Nat.succ_mul] at hg
    refine i_cond (fun _ => i_call (hI l) fun r hr => ?_) (fun _ => i_grdP (by omega) (sat_mono (L10_tot self s1 pos nx pos1 B hB hI g _ _ _ _ hs (by rw [ByteArray.size_append]; omega)) ?_))
    · obtain ⟨s2, v, l2⟩ := r
      dsimp only at hr
      refine i_grdP (by omega) (sat_mono (L10_tot self s1 pos nx pos1 B hB hI g _ _ _ _ hr.1 (by rw [ByteArray.size_append]; omega)) ?_)
      rintro o ⟨acc', l', rfl, h⟩
      rw [ByteArray.size_append] at h
      exact ⟨_, _, rfl, by rw [Nat.succ_mul]; omega⟩
    · rintro o ⟨acc', l', rfl, h⟩
      rw [ByteArray.size_append] at h
      exact ⟨_, _, rfl, by rw [Nat.succ_mul]; omega⟩

/-- Behind an item: a star, or nothing of the kind. -/
def After (s1 : ByteArray) (pos1 nx : Int) : Prop :=
  (nx = pos1 + 1 ∧ pos1 < s1.size ∧ s1.data[pos1.toNat]? = some 42) ∨ (nx = pos1 ∧ (pos1 < s1.size → ∃ d : UInt8, s1.data[pos1.toNat]? = some d ∧ d.toNat ≠ 42 ∧ d.toNat ≠ 43 ∧ d.toNat ≠ 63))

theorem L8_step (self : Smp) (s1 : ByteArray) (g : Nat) (acc : ByteArray) (pos pos1 nx : Int) (l : List Int) (B : Nat) (hB : B ≤ 1000) (hacc : acc.size ≤ 100000) (h0 : 0 ≤ pos) (h1 : pos < s1.size) (h2 : 0 ≤ pos1) (hsz : s1.size ≤ 1000) (hp1 : pos1 ≤ 1000)
    (c : UInt8) (hc : s1.data[pos.toNat]? = some c) (hcb : c.toNat ≠ 124) (hcp : c.toNat ≠ 41) (hI : ∀ l, sat (self s1 pos l) fun r => r.1.size ≤ B ∧ r.2.1 = pos1) (hA : After s1 pos1 nx)
    {R : Sum (ByteArray × Int × List Int) (ByteArray × Int × List Int) → Prop} (k : ∀ acc' l', acc'.size ≤ acc.size + 3 * B → sat (f104_sequence_L8 self s1 g acc' nx l') R) :
    sat (f104_sequence_L8 self s1 (g + 1) acc pos l) R := by
  refine i_cond (fun _ => ?_) (fun h => absurd h1 (by simpa using h))
  refine i_getB h0 h1 fun u hu => ?_
  obtain rfl : c = u := Option.some.inj (hc.symm.trans hu)
  refine i_cond (fun _ => ?_) (fun h => absurd (by simpa using h) (show ¬ (c.toNat : Int) = 124 by omega))
  refine i_getB h0 h1 fun u hu => ?_
  obtain rfl : c = u := Option.some.inj (hc.symm.trans hu)
  refine i_cond (fun _ => ?_) (fun h => absurd (by simpa using h) (show ¬ (c.toNat : Int) = 41 by omega))
  refine i_sbind (i_call (hI l) fun r hr => ?_)
  obtain ⟨s2, v2, l2⟩ := r
  dsimp only at hr
  obtain ⟨hs2, rfl⟩ := hr
  refine i_sbind (sat_mono (R := fun o => ∃ (t : Int) (l' : List Int), o = .inr (t, nx, l') ∧ 0 ≤ t ∧ t ≤ 3) ?_ ?_)
  · rcases hA with ⟨rfl, hlt, hd⟩ | ⟨rfl, hd⟩
    · refine i_cond (fun _ => i_getB h2 hlt fun u hu => ?_) (fun h => absurd hlt (by simpa using h))
      obtain rfl : (42 : UInt8) = u := Option.some.inj (hd.symm.trans hu)
      refine i_cond (fun _ => i_call (next_tot _ _ (by omega)) fun r hr => ?_) (fun h => by cases h)
      refine sat_mk ⟨r.1, r.2, by rw [wrap_id (by omega) (by omega)], hr.1, by omega⟩
    · refine i_cond (fun h => ?_) (fun _ => sat_mk ⟨1, _, rfl, by omega, by omega⟩)
      have hlt : nx < s1.size := by simpa using h
      obtain ⟨d, hd, n1, n2, n3⟩ := hd hlt
      refine i_getB h2 hlt fun u hu => ?_
      obtain rfl : d = u := Option.some.inj (hd.symm.trans hu)
      refine i_cond (fun h => absurd (by simpa using h) (show ¬ (d.toNat : Int) = 42 by omega)) (fun _ => i_cond (fun h => absurd (by simpa using h) (show ¬ (d.toNat : Int) = 43 by omega)) (fun _ => i_cond (fun h => absurd (by simpa using h) (show ¬ (d.toNat : Int) = 63 by omega)) (fun _ => sat_mk ⟨1, _, rfl, by omega, by omega⟩)))
  rintro _ ⟨t, l', rfl, ht0, ht3⟩
  refine i_grdP (by omega) (sat_mono (L10_tot self s1 pos nx v2 B hB hI _ _ _ _ _ hs2 ?_) ?_)
  · have : (t - 0).toNat * B ≤ 3 * B := Nat.mul_le_mul_right _ (by omega)
    omega
  · rintro o ⟨acc', l3, rfl, h⟩
    have : (t - 0).toNat * B ≤ 3 * B := Nat.mul_le_mul_right _ (by omega)
    exact k acc' l3 (by omega)
/-- The sequence ends: at the string's end, at a bar, at a closing bracket. -/
theorem L8_end (self : Smp) (s1 : ByteArray) (g : Nat) (acc : ByteArray) (pos : Int) (l : List Int) (h0 : 0 ≤ pos)
    (h : (s1.size : Int) ≤ pos ∨ (pos < s1.size ∧ ∃ c : UInt8, s1.data[pos.toNat]? = some c ∧ (c.toNat = 124 ∨ c.toNat = 41)))
    {R : Sum (ByteArray × Int × List Int) (ByteArray × Int × List Int) → Prop} (k : R (.inr (acc, pos, l))) :
    sat (f104_sequence_L8 self s1 (g + 1) acc pos l) R := by
  rcases h with h | ⟨h1, c, hc, h⟩
  · exact i_cond (fun hh => absurd (by simpa using hh) (show ¬ pos < s1.size by omega)) (fun _ => sat_mk k)
  · refine i_cond (fun _ => ?_) (fun _ => sat_mk k)
    refine i_getB h0 h1 fun u hu => i_cond (fun h5 => ?_) (fun _ => sat_mk k)
    refine i_getB h0 h1 fun u' hu' => i_cond (fun h6 => ?_) (fun _ => sat_mk k)
    obtain rfl : c = u := Option.some.inj (hc.symm.trans hu)
    obtain rfl : c = u' := Option.some.inj (hc.symm.trans hu')
    simp at h5 h6
    omega

theorem cls_use {p : ByteArray} {at_ nx : Int} {K : Int} {L : List Int} (hK : K = L.length) (hK1 : 1 ≤ K) (hK2 : K ≤ 1000) {n : Nat} {l : List Int}
    (h : f153_class n p at_ l = (f15_Next K l).bind fun r => match r with | (v, l') => grdP ((0 : Int) ≤ v ∧ v < K) (getN L (0 + v.toNat) fun c => some (strOfNums [c], nx, l'))) :
    sat (f153_class n p at_ l) fun r => r.1.size ≤ 1 ∧ r.2.1 = nx := by
  rw [h]
  refine i_call (next_tot _ _ (by omega)) fun r hr => ?_
  obtain ⟨v, l'⟩ := r
  dsimp only at hr
  exact i_grdP (by omega) (i_getN (by omega) fun u _ _ => sat_mk ⟨Nat.le_of_eq rfl, rfl⟩)
theorem cls1 (n : Nat) (l : List Int) : sat (f153_class (n + 300) p1 1 l) fun r => r.1.size ≤ 1 ∧ r.2.1 = 5 := by
  refine cls_use (K := 3) (L := [97, 98, 99]) rfl (by decide) (by decide) ?_
  kernel_rfl
theorem cls2 (n : Nat) (l : List Int) : sat (f153_class (n + 300) p2 2 l) fun r => r.1.size ≤ 1 ∧ r.2.1 = 6 := by
  refine cls_use (K := 3) (L := [97, 98, 99]) rfl (by decide) (by decide) ?_
  kernel_rfl
theorem cls3 (n : Nat) (l : List Int) : sat (f153_class (n + 300) p2 11 l) fun r => r.1.size ≤ 1 ∧ r.2.1 = 15 := by
  refine cls_use (K := 10) (L := [48, 49, 50, 51, 52, 53, 54, 55, 56, 57]) rfl (by decide) (by decide) ?_
  kernel_rfl
theorem cls4 (n : Nat) (l : List Int) : sat (f153_class (n + 300) p3 1 l) fun r => r.1.size ≤ 1 ∧ r.2.1 = 5 := by
  refine cls_use (K := 10) (L := [48, 49, 50, 51, 52, 53, 54, 55, 56, 57]) rfl (by decide) (by decide) ?_
  kernel_rfl

/-- An item (a string of at most B bytes; then the place nx), whatever the stream. -/
def It (f : Smp) (p : ByteArray) (pos : Int) (B : Nat) (nx : Int) : Prop := ∀ l, sat (f p pos l) fun r => r.1.size ≤ B ∧ r.2.1 = nx
theorem It.mono {f : Smp} {p : ByteArray} {pos : Int} {B B' : Nat} {nx : Int} (h : It f p pos B nx) (hB : B ≤ B') : It f p pos B' nx := fun l => sat_mono (h l) fun r hr => ⟨Nat.le_trans hr.1 hB, hr.2⟩
theorem it_br {n : Nat} {A : Smp} {p : ByteArray} {pos nx : Int} (h0 : 0 ≤ pos) (h1 : pos < p.size) (hs : p.size ≤ 1000) (hc : p.data[pos.toNat]? = some 91)
    (h : ∀ l, sat (f153_class n p (pos + 1) l) fun r => r.1.size ≤ 1 ∧ r.2.1 = nx) : It (b131_item n A) p pos 1 nx := by
  intro l
  refine i_getB h0 h1 fun u hu => ?_
  obtain rfl : (91 : UInt8) = u := Option.some.inj (hc.symm.trans hu)
  refine i_cond (fun h => by cases h) (fun _ => i_cond (fun h => by cases h) (fun _ => i_cond (fun _ => ?_) (fun h => by cases h)))
  rw [wrap_id (by omega) (by omega)]
  refine i_call (h l) fun r hr => ?_
  obtain ⟨s, v, l'⟩ := r
  exact sat_mk hr
theorem it_dot {n : Nat} {A : Smp} {p : ByteArray} {pos : Int} (h0 : 0 ≤ pos) (h1 : pos < p.size) (hs : p.size ≤ 1000) (hc : p.data[pos.toNat]? = some 46) : It (b131_item n A) p pos 1 (pos + 1) := by
  intro l
  refine i_getB h0 h1 fun u hu => ?_
  obtain rfl : (46 : UInt8) = u := Option.some.inj (hc.symm.trans hu)
  refine i_cond (fun h => by cases h) (fun _ => i_cond (fun _ => ?_) (fun h => by cases h))
  rw [wrap_id (by omega) (by omega)]
  refine i_call (pickS_tot _ _ (by simp) (by simp)) fun r hr => ?_
  obtain ⟨s, l'⟩ := r
  simp only [List.mem_cons, List.not_mem_nil, or_false] at hr
  refine sat_mk ⟨?_, rfl⟩
  rcases hr with rfl | rfl | rfl | rfl | rfl <;> exact Nat.le_refl _
theorem it_chr {n : Nat} {A : Smp} {p : ByteArray} {pos : Int} (h0 : 0 ≤ pos) (h1 : pos < p.size) (hs : p.size ≤ 1000) (c : UInt8) (hc : p.data[pos.toNat]? = some c) (n1 : c.toNat ≠ 40) (n2 : c.toNat ≠ 46) (n3 : c.toNat ≠ 91) (n4 : c.toNat ≠ 92) :
    It (b131_item n A) p pos 1 (pos + 1) := by
  intro l
  refine i_getB h0 h1 fun u hu => ?_
  obtain rfl : c = u := Option.some.inj (hc.symm.trans hu)
  refine i_cond (fun h => absurd (by simpa using h) (show ¬ (c.toNat : Int) = 40 by omega)) (fun _ => i_cond (fun h => absurd (by simpa using h) (show ¬ (c.toNat : Int) = 46 by omega)) (fun _ => i_cond (fun h => absurd (by simpa using h) (show ¬ (c.toNat : Int) = 91 by omega)) (fun _ => i_cond (fun h => absurd (by simpa using h) (show ¬ (c.toNat : Int) = 92 by omega)) (fun _ => sat_mk ⟨Nat.le_of_eq rfl, ?_⟩))))
  show IntKind.wrap .i64 (pos + 1) = pos + 1
  rw [wrap_id (by omega) (by omega)]
theorem it_par {n : Nat} {A : Smp} {p : ByteArray} {pos q : Int} {B : Nat} (h0 : 0 ≤ pos) (h1 : pos < p.size) (hs : p.size ≤ 1000) (hq0 : 0 ≤ q) (hq : q ≤ 1000) (hc : p.data[pos.toNat]? = some 40) (h : It A p (pos + 1) B q) : It (b131_item n A) p pos B (q + 1) := by
  intro l
  refine i_getB h0 h1 fun u hu => ?_
  obtain rfl : (40 : UInt8) = u := Option.some.inj (hc.symm.trans hu)
  refine i_cond (fun _ => ?_) (fun h => by cases h)
  rw [wrap_id (by omega) (by omega)]
  refine i_call (h l) fun r hr => ?_
  obtain ⟨s, v, l'⟩ := r
  dsimp only at hr
  obtain ⟨h1, rfl⟩ := hr
  refine sat_mk ⟨h1, ?_⟩
  show IntKind.wrap .i64 (v + 1) = v + 1
  rw [wrap_id (by omega) (by omega)]
/-- Alternatives: no bar behind the first. -/
theorem it_alt {n : Nat} {S : Smp} {p : ByteArray} {pos q : Int} {B : Nat} (hq0 : 0 ≤ q) (h : It S p pos B q) (hE : q < p.size → ∃ c : UInt8, p.data[q.toNat]? = some c ∧ c.toNat ≠ 124) : It (b82_alternatives (n + 1) S) p pos B q := by
  intro l
  refine i_call (h l) fun r hr => ?_
  obtain ⟨s, v, l'⟩ := r
  dsimp only at hr
  obtain ⟨h1, rfl⟩ := hr
  refine i_sbind (sat_mono (R := fun o => o = .inr (v, [s], l')) ?_ ?_)
  · refine i_cond (fun hlt => ?_) (fun _ => sat_mk rfl)
    have hlt : v < p.size := by simpa using hlt
    obtain ⟨c, hc, hn⟩ := hE hlt
    refine i_getB hq0 hlt fun u hu => ?_
    obtain rfl : c = u := Option.some.inj (hc.symm.trans hu)
    exact i_cond (fun h => absurd (by simpa using h) (show ¬ (c.toNat : Int) = 124 by omega)) (fun _ => sat_mk rfl)
  · rintro _ rfl
    refine i_call (next_tot _ _ (by simp)) fun r hr => ?_
    obtain ⟨i, l2⟩ := r
    simp only [List.length_cons, List.length_nil] at hr
    have hi : i = 0 := by omega
    subst hi
    exact i_grdP (by simp) (i_getN (by simp) fun u hu _ => sat_mk ⟨by simp at hu; rw [hu]; exact h1, rfl⟩)
/-- Three alternatives, as in a|b|c. -/
theorem it_alt3 {n : Nat} {S : Smp} {p : ByteArray} {pos q1 q2 q3 : Int} {B : Nat} (h : It S p pos B q1) (hq1 : 0 ≤ q1 ∧ q1 < p.size ∧ p.data[q1.toNat]? = some 124) (h2 : It S p (q1 + 1) B q2) (hq2 : 0 ≤ q2 ∧ q2 < p.size ∧ p.data[q2.toNat]? = some 124) (h3 : It S p (q2 + 1) B q3) (hq3 : (p.size : Int) ≤ q3) (hs : p.size ≤ 1000) : It (b82_alternatives (n + 3) S) p pos B q3 := by
  intro l
  refine i_call (h l) fun r hr => ?_
  obtain ⟨s, v, l'⟩ := r
  dsimp only at hr
  obtain ⟨hs1, rfl⟩ := hr
  refine i_sbind (sat_mono (R := fun o => ∃ a b l', o = .inr (q3, [s, a, b], l') ∧ a.size ≤ B ∧ b.size ≤ B) ?_ ?_)
  · refine i_cond (fun _ => ?_) (fun h => absurd hq1.2.1 (by simpa using h))
    refine i_getB hq1.1 hq1.2.1 fun u hu => ?_
    obtain rfl : (124 : UInt8) = u := Option.some.inj (hq1.2.2.symm.trans hu)
    refine i_cond (fun _ => ?_) (fun h => by cases h)
    rw [wrap_id (by omega) (by omega)]
    refine i_call (h2 l') fun r hr => ?_
    obtain ⟨a, v2, l2⟩ := r
    dsimp only at hr
    obtain ⟨ha, rfl⟩ := hr
    refine i_grdP (by simp) ?_
    refine i_cond (fun _ => ?_) (fun h => absurd hq2.2.1 (by simpa using h))
    refine i_getB hq2.1 hq2.2.1 fun u hu => ?_
    obtain rfl : (124 : UInt8) = u := Option.some.inj (hq2.2.2.symm.trans hu)
    refine i_cond (fun _ => ?_) (fun h => by cases h)
    rw [wrap_id (by omega) (by omega)]
    refine i_call (h3 l2) fun r hr => ?_
    obtain ⟨b, v3, l3⟩ := r
    dsimp only at hr
    obtain ⟨hb, rfl⟩ := hr
    refine i_grdP (by simp) ?_
    exact i_cond (fun h => absurd (by simpa using h) (show ¬ v3 < p.size by omega)) (fun _ => sat_mk ⟨a, b, _, rfl, ha, hb⟩)
  · rintro _ ⟨a, b, l2, rfl, ha, hb⟩
    refine i_call (next_tot _ _ (by simp)) fun r hr => ?_
    obtain ⟨i, l2⟩ := r
    simp only [List.length_cons, List.length_nil] at hr
    refine i_grdP (by simp; omega) (i_getN (by simp; omega) fun u hu _ => sat_mk ⟨?_, rfl⟩)
    simp only [List.mem_cons, List.not_mem_nil, or_false] at hu
    rcases hu with rfl | rfl | rfl <;> assumption
/-- A sequence of one item. -/
theorem it_seq1 {n : Nat} {I : Smp} {p : ByteArray} {pos pos1 nx : Int} {B : Nat} (hB : B ≤ 1000) (h0 : 0 ≤ pos) (h1 : pos < p.size) (h2 : 0 ≤ pos1) (hsz : p.size ≤ 1000) (hp1 : pos1 ≤ 1000)
    (c : UInt8) (hc : p.data[pos.toNat]? = some c) (hcb : c.toNat ≠ 124) (hcp : c.toNat ≠ 41) (hI : It I p pos B pos1) (hA : After p pos1 nx) (hn : 0 ≤ nx)
    (hE : (p.size : Int) ≤ nx ∨ (nx < p.size ∧ ∃ c : UInt8, p.data[nx.toNat]? = some c ∧ (c.toNat = 124 ∨ c.toNat = 41))) : It (b104_sequence (n + 2) I) p pos (3 * B) nx := by
  intro l
  refine i_sbind (L8_step I p (n + 1) _ pos pos1 nx l B hB (by simp [ByteArray.size]) h0 h1 h2 hsz hp1 c hc hcb hcp hI hA fun acc l' ha => L8_end I p n acc nx l' hn hE (sat_mk ⟨?_, rfl⟩))
  have : (⟨#[]⟩ : ByteArray).size = 0 := rfl
  show acc.size ≤ 3 * B
  omega
theorem it_seq3 {n : Nat} {I : Smp} {p : ByteArray} {p0 a0 p1 a1 p2 a2 nx : Int} {B : Nat} (hB : B ≤ 1000) (hsz : p.size ≤ 1000)
    (h0 : 0 ≤ p0 ∧ p0 < p.size ∧ 0 ≤ a0 ∧ a0 ≤ 1000) (c0 : UInt8) (hc0 : p.data[p0.toNat]? = some c0 ∧ c0.toNat ≠ 124 ∧ c0.toNat ≠ 41) (hI0 : It I p p0 B a0) (hA0 : After p a0 p1)
    (h1 : 0 ≤ p1 ∧ p1 < p.size ∧ 0 ≤ a1 ∧ a1 ≤ 1000) (c1 : UInt8) (hc1 : p.data[p1.toNat]? = some c1 ∧ c1.toNat ≠ 124 ∧ c1.toNat ≠ 41) (hI1 : It I p p1 B a1) (hA1 : After p a1 p2)
    (h2 : 0 ≤ p2 ∧ p2 < p.size ∧ 0 ≤ a2 ∧ a2 ≤ 1000) (c2 : UInt8) (hc2 : p.data[p2.toNat]? = some c2 ∧ c2.toNat ≠ 124 ∧ c2.toNat ≠ 41) (hI2 : It I p p2 B a2) (hA2 : After p a2 nx) (hE : (p.size : Int) ≤ nx) :
    It (b104_sequence (n + 4) I) p p0 (9 * B) nx := by
  intro l
  have hz : (⟨#[]⟩ : ByteArray).size = 0 := rfl
  refine i_sbind (L8_step I p (n + 3) _ p0 a0 p1 l B hB (by omega) h0.1 h0.2.1 h0.2.2.1 hsz h0.2.2.2 c0 hc0.1 hc0.2.1 hc0.2.2 hI0 hA0 fun acc l' ha => ?_)
  refine L8_step I p (n + 2) _ p1 a1 p2 l' B hB (by omega) h1.1 h1.2.1 h1.2.2.1 hsz h1.2.2.2 c1 hc1.1 hc1.2.1 hc1.2.2 hI1 hA1 fun acc2 l2 ha2 => ?_
  refine L8_step I p (n + 1) _ p2 a2 nx l2 B hB (by omega) h2.1 h2.2.1 h2.2.2.1 hsz h2.2.2.2 c2 hc2.1 hc2.2.1 hc2.2.2 hI2 hA2 fun acc3 l3 ha3 => ?_
  exact L8_end I p n acc3 nx l3 (by omega) (.inl hE) (sat_mk ⟨by show acc3.size ≤ 9 * B; omega, rfl⟩)

theorem jI {n : Nat} {p : ByteArray} {pos : Int} {B : Nat} {nx : Int} (h : It (b131_item n (f82_alternatives n)) p pos B nx) : It (f131_item (n + 1)) p pos B nx := h
theorem jS {n : Nat} {p : ByteArray} {pos : Int} {B : Nat} {nx : Int} (h : It (b104_sequence n (f131_item n)) p pos B nx) : It (f104_sequence (n + 1)) p pos B nx := h
theorem jA {n : Nat} {p : ByteArray} {pos : Int} {B : Nat} {nx : Int} (h : It (b82_alternatives n (f104_sequence n)) p pos B nx) : It (f82_alternatives (n + 1)) p pos B nx := h
theorem alt_p0 (n : Nat) : It (f82_alternatives (n + 310)) p0 0 3 2 := by
  have i : It (f131_item (n + 308)) p0 0 1 1 := jI (n := n + 307) (it_dot (p := p0) (pos := 0) (by decide) (by decide) (by decide) rfl)
  have s : It (f104_sequence (n + 309)) p0 0 3 2 := jS (n := n + 308) (it_seq1 (n := n + 306) (p := p0) (pos := 0) (pos1 := 1) (nx := 2) (B := 1) (by decide) (by decide) (by decide) (by decide) (by decide) (by decide) 46 rfl (by decide) (by decide) i (.inl ⟨rfl, by decide, rfl⟩) (by decide) (.inl (by decide)))
  exact jA (n := n + 309) (it_alt (n := n + 308) (p := p0) (pos := 0) (q := 2) (by decide) s (fun h => absurd h (by decide)))
theorem alt_p1 (n : Nat) : It (f82_alternatives (n + 310)) p1 0 3 6 := by
  have i : It (f131_item (n + 308)) p1 0 1 5 := jI (n := n + 307) (it_br (p := p1) (pos := 0) (nx := 5) (by decide) (by decide) (by decide) rfl (cls1 (n + 7)))
  have s : It (f104_sequence (n + 309)) p1 0 3 6 := jS (n := n + 308) (it_seq1 (n := n + 306) (p := p1) (pos := 0) (pos1 := 5) (nx := 6) (B := 1) (by decide) (by decide) (by decide) (by decide) (by decide) (by decide) 91 rfl (by decide) (by decide) i (.inl ⟨rfl, by decide, rfl⟩) (by decide) (.inl (by decide)))
  exact jA (n := n + 309) (it_alt (n := n + 308) (p := p1) (pos := 0) (q := 6) (by decide) s (fun h => absurd h (by decide)))
theorem alt_p3 (n : Nat) : It (f82_alternatives (n + 310)) p3 0 3 5 := by
  have i : It (f131_item (n + 308)) p3 0 1 5 := jI (n := n + 307) (it_br (p := p3) (pos := 0) (nx := 5) (by decide) (by decide) (by decide) rfl (cls4 (n + 7)))
  have s : It (f104_sequence (n + 309)) p3 0 3 5 := jS (n := n + 308) (it_seq1 (n := n + 306) (p := p3) (pos := 0) (pos1 := 5) (nx := 5) (B := 1) (by decide) (by decide) (by decide) (by decide) (by decide) (by decide) 91 rfl (by decide) (by decide) i (.inr ⟨rfl, fun h => absurd h (by decide)⟩) (by decide) (.inl (by decide)))
  exact jA (n := n + 309) (it_alt (n := n + 308) (p := p3) (pos := 0) (q := 5) (by decide) s (fun h => absurd h (by decide)))
theorem alt_p4 (n : Nat) : It (f82_alternatives (n + 310)) p4 0 3 5 := by
  have i0 : It (f131_item (n + 308)) p4 0 1 1 := jI (n := n + 307) (it_chr (p := p4) (pos := 0) (by decide) (by decide) (by decide) 97 rfl (by decide) (by decide) (by decide) (by decide))
  have s0 : It (f104_sequence (n + 309)) p4 0 3 1 := jS (n := n + 308) (it_seq1 (n := n + 306) (p := p4) (pos := 0) (pos1 := 1) (nx := 1) (B := 1) (by decide) (by decide) (by decide) (by decide) (by decide) (by decide) 97 rfl (by decide) (by decide) i0 (.inr ⟨rfl, fun _ => ⟨124, rfl, by decide, by decide, by decide⟩⟩) (by decide) (.inr ⟨by decide, 124, rfl, .inl rfl⟩))
  have i1 : It (f131_item (n + 308)) p4 2 1 3 := jI (n := n + 307) (it_chr (p := p4) (pos := 2) (by decide) (by decide) (by decide) 98 rfl (by decide) (by decide) (by decide) (by decide))
  have s1 : It (f104_sequence (n + 309)) p4 2 3 3 := jS (n := n + 308) (it_seq1 (n := n + 306) (p := p4) (pos := 2) (pos1 := 3) (nx := 3) (B := 1) (by decide) (by decide) (by decide) (by decide) (by decide) (by decide) 98 rfl (by decide) (by decide) i1 (.inr ⟨rfl, fun _ => ⟨124, rfl, by decide, by decide, by decide⟩⟩) (by decide) (.inr ⟨by decide, 124, rfl, .inl rfl⟩))
  have i2 : It (f131_item (n + 308)) p4 4 1 5 := jI (n := n + 307) (it_chr (p := p4) (pos := 4) (by decide) (by decide) (by decide) 99 rfl (by decide) (by decide) (by decide) (by decide))
  have s2 : It (f104_sequence (n + 309)) p4 4 3 5 := jS (n := n + 308) (it_seq1 (n := n + 306) (p := p4) (pos := 4) (pos1 := 5) (nx := 5) (B := 1) (by decide) (by decide) (by decide) (by decide) (by decide) (by decide) 99 rfl (by decide) (by decide) i2 (.inr ⟨rfl, fun h => absurd h (by decide)⟩) (by decide) (.inl (by decide)))
  exact jA (n := n + 309) (it_alt3 (n := n + 306) (p := p4) (pos := 0) (q1 := 1) (q2 := 3) (q3 := 5) s0 ⟨by decide, by decide, rfl⟩ s1 ⟨by decide, by decide, rfl⟩ s2 (by decide) (by decide))
theorem alt_p2 (n : Nat) : It (f82_alternatives (n + 310)) p2 0 27 17 := by
  have i0 : It (f131_item (n + 305)) p2 1 1 6 := jI (n := n + 304) (it_br (p := p2) (pos := 1) (nx := 6) (by decide) (by decide) (by decide) rfl (cls2 (n + 4)))
  have s0 : It (f104_sequence (n + 306)) p2 1 3 7 := jS (n := n + 305) (it_seq1 (n := n + 303) (p := p2) (pos := 1) (pos1 := 6) (nx := 7) (B := 1) (by decide) (by decide) (by decide) (by decide) (by decide) (by decide) 91 rfl (by decide) (by decide) i0 (.inl ⟨rfl, by decide, rfl⟩) (by decide) (.inr ⟨by decide, 41, rfl, .inr rfl⟩))
  have a0 : It (f82_alternatives (n + 307)) p2 1 3 7 := jA (n := n + 306) (it_alt (n := n + 305) (p := p2) (pos := 1) (q := 7) (by decide) s0 (fun _ => ⟨41, rfl, by decide⟩))
  have p0 : It (f131_item (n + 308)) p2 0 3 8 := jI (n := n + 307) (it_par (p := p2) (pos := 0) (q := 7) (by decide) (by decide) (by decide) (by decide) (by decide) rfl a0)
  have i1 : It (f131_item (n + 305)) p2 10 1 15 := jI (n := n + 304) (it_br (p := p2) (pos := 10) (nx := 15) (by decide) (by decide) (by decide) rfl (cls3 (n + 4)))
  have s1 : It (f104_sequence (n + 306)) p2 10 3 16 := jS (n := n + 305) (it_seq1 (n := n + 303) (p := p2) (pos := 10) (pos1 := 15) (nx := 16) (B := 1) (by decide) (by decide) (by decide) (by decide) (by decide) (by decide) 91 rfl (by decide) (by decide) i1 (.inl ⟨rfl, by decide, rfl⟩) (by decide) (.inr ⟨by decide, 41, rfl, .inr rfl⟩))
  have a1 : It (f82_alternatives (n + 307)) p2 10 3 16 := jA (n := n + 306) (it_alt (n := n + 305) (p := p2) (pos := 10) (q := 16) (by decide) s1 (fun _ => ⟨41, rfl, by decide⟩))
  have p1 : It (f131_item (n + 308)) p2 9 3 17 := jI (n := n + 307) (it_par (p := p2) (pos := 9) (q := 16) (by decide) (by decide) (by decide) (by decide) (by decide) rfl a1)
  have m : It (f131_item (n + 308)) p2 8 3 9 := (jI (n := n + 307) (it_chr (p := p2) (pos := 8) (by decide) (by decide) (by decide) 45 rfl (by decide) (by decide) (by decide) (by decide))).mono (by decide)
  have s : It (f104_sequence (n + 309)) p2 0 27 17 := jS (n := n + 308) (it_seq3 (n := n + 304) (p := p2) (p0 := 0) (a0 := 8) (p1 := 8) (a1 := 9) (p2 := 9) (a2 := 17) (nx := 17) (B := 3) (by decide) (by decide) (by decide) 40 ⟨rfl, by decide, by decide⟩ p0 (.inr ⟨rfl, fun _ => ⟨45, rfl, by decide, by decide, by decide⟩⟩) (by decide) 45 ⟨rfl, by decide, by decide⟩ m (.inr ⟨rfl, fun _ => ⟨40, rfl, by decide, by decide, by decide⟩⟩) (by decide) 40 ⟨rfl, by decide, by decide⟩ p1 (.inr ⟨rfl, fun h => absurd h (by decide)⟩) (by decide))
  exact jA (n := n + 309) (it_alt (n := n + 308) (p := p2) (pos := 0) (q := 17) (by decide) s (fun h => absurd h (by decide)))
theorem Sample_tot {p : ByteArray} (hp : isPat p) (n : Nat) (l : List Int) : sat (f65_Sample (n + 310) p l) fun _ => True := by
  have h : ∃ B nx, It (f82_alternatives (n + 310)) p 0 B nx := by
    rcases hp with rfl | rfl | rfl | rfl | rfl
    · exact ⟨_, _, alt_p0 n⟩
    · exact ⟨_, _, alt_p1 n⟩
    · exact ⟨_, _, alt_p2 n⟩
    · exact ⟨_, _, alt_p3 n⟩
    · exact ⟨_, _, alt_p4 n⟩
  obtain ⟨B, nx, h⟩ := h
  unfold f65_Sample
  refine i_call (h l) fun r _ => ?_
  obtain ⟨s, v, l'⟩ := r
  exact sat_mk trivial
end Go.Clap
