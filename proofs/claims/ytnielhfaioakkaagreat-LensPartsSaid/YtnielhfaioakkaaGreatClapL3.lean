/- The checks of the small code against the loaded functions. -/
import Derived.Test.YtnielhfaioakkaaGreatClapL2
set_option linter.unusedVariables false
set_option linter.unusedSimpArgs false
namespace Go.Clap
def e0 : ByteArray := ⟨#[]⟩
def isPat (p : ByteArray) : Prop := p = ⟨#[46, 42]⟩ ∨ p = ⟨#[91, 97, 45, 99, 93, 42]⟩ ∨ p = ⟨#[40, 91, 97, 45, 99, 93, 42, 41, 45, 40, 91, 48, 45, 57, 93, 42, 41]⟩ ∨ p = ⟨#[91, 48, 45, 57, 93]⟩ ∨ p = ⟨#[97, 124, 98, 124, 99]⟩
inductive Leaf (s : PT) : Tp → Prop
 | unit : Leaf s (.mk 0 e0 0 0 e0 [])
 | num (k lo hi : Int) (hk : k = 1 ∨ k = 2 ∨ k = 4) (h0 : -9007199254740992 ≤ lo) (h1 : lo ≤ hi) (h2 : hi ≤ 9007199254740992) : Leaf s (.mk k e0 lo hi e0 [])
 | text (p : ByteArray) (h : isPat p) : Leaf s (.mk 5 e0 0 0 p [])
 | float : Leaf s (.mk 3 e0 0 0 e0 [])
 | named (d : ByteArray × Tp) (h : d ∈ s) : Leaf s (.mk 10 d.1 0 0 e0 [])
inductive Good (s : PT) : Nat → Tp → Prop
 | leaf {k : Nat} {t : Tp} (h : Leaf s t) : Good s k t
 | list {k : Nat} {t : Tp} (lo hi : Int) (h : Good s k t) (h0 : 0 ≤ lo) (h1 : lo ≤ hi) (h2 : hi ≤ 10) : Good s (k + 1) (.mk 8 e0 lo hi e0 [(e0, t)])
 | map {k : Nat} {t : Tp} (lo hi : Int) (h : Good s k t) (h0 : 0 ≤ lo) (h1 : lo ≤ hi) (h3 : 2 ≤ hi) (h2 : hi ≤ 10) : Good s (k + 1) (.mk 9 e0 lo hi ⟨#[91, 97, 45, 101, 93]⟩ [(e0, t)])
 | choice {k : Nat} (ps : PT) (h0 : ps ≠ []) (h1 : ps.length ≤ 8) (h : ∀ x, x ∈ ps → Good s k x.2) : Good s (k + 1) (.mk 7 e0 0 0 e0 ps)
 | record {k : Nat} (ps : PT) (h1 : ps.length ≤ 8) (h : ∀ x, x ∈ ps → Good s k x.2) : Good s (k + 1) (.mk 6 e0 0 0 e0 ps)
theorem wrap_pred (k : Nat) (hk : k ≤ 100) : IntKind.wrap .i64 (((k + 1 : Nat) : Int) - 1) = (k : Int) := by
 rw [wrap_id (by omega) (by omega)]; omega
theorem typL4_tot (s : PT) (self : PT → Int → List Int → Option (Tp × List Int)) (k : Nat) (v : Int) (hs : ∀ l, sat (self s (IntKind.wrap .i64 (v - 1)) l) fun r => Good s k r.1) :
 ∀ (g : Nat) (x : Int) (acc : PT) (l : List Int), (∀ y, y ∈ acc → Good s k y.2) → acc.length + g ≤ 8 →
  sat (f41_L4 self s v g x acc l) fun o => ∃ l' ps, o = .inr (l', ps) ∧ ps.length = acc.length + g ∧ ∀ y, y ∈ ps → Good s k y.2
 | 0, x, acc, l, ha, hg => sat_mk ⟨_, _, rfl, rfl, ha⟩
 | g + 1, x, acc, l, ha, hg => by
  refine i_call (fieldName_tot x) fun nm _ => i_call (hs l) fun r hr => ?_
  obtain ⟨⟨k1, m1, lo1, hi1, p1, ps1⟩, l1⟩ := r
  refine i_grdP (by simp; omega) (sat_mono (typL4_tot s self k v hs g _ _ _ ?_ (by simp; omega)) ?_)
  · intro y hy
    rcases List.mem_append.1 hy with h | h
    · exact ha y h
    · obtain rfl := List.mem_singleton.1 h; exact hr
  · rintro o ⟨l', ps, rfl, hl, hp⟩
    exact ⟨l', ps, rfl, by rw [hl]; simp; omega, hp⟩
theorem typL6_tot (s : PT) (self : PT → Int → List Int → Option (Tp × List Int)) (k : Nat) (v : Int) (hs : ∀ l, sat (self s (IntKind.wrap .i64 (v - 1)) l) fun r => Good s k r.1) :
 ∀ (g : Nat) (x : Int) (acc : PT) (l : List Int), (∀ y, y ∈ acc → Good s k y.2) → acc.length + g ≤ 8 →
  sat (f41_L6 self s v g x acc l) fun o => ∃ l' ps, o = .inr (l', ps) ∧ ps.length = acc.length + g ∧ ∀ y, y ∈ ps → Good s k y.2
 | 0, x, acc, l, ha, hg => sat_mk ⟨_, _, rfl, rfl, ha⟩
 | g + 1, x, acc, l, ha, hg => by
  refine i_call (fieldName_tot x) fun nm _ => i_call (hs l) fun r hr => ?_
  obtain ⟨⟨k1, m1, lo1, hi1, p1, ps1⟩, l1⟩ := r
  refine i_grdP (by simp; omega) (sat_mono (typL6_tot s self k v hs g _ _ _ ?_ (by simp; omega)) ?_)
  · intro y hy
    rcases List.mem_append.1 hy with h | h
    · exact ha y h
    · obtain rfl := List.mem_singleton.1 h; exact hr
  · rintro o ⟨l', ps, rfl, hl, hp⟩
    exact ⟨l', ps, rfl, by rw [hl]; simp; omega, hp⟩
theorem typ_body (s : PT) (hsl : s.length ≤ 1000) (self : PT → Int → List Int → Option (Tp × List Int)) (k : Nat) (hk : k ≤ 3)
 (hs : ∀ k', k = k' + 1 → ∀ l, sat (self s (IntKind.wrap .i64 ((k : Int) - 1)) l) fun r => Good s k' r.1) (l : List Int) :
 sat (b41 self s (k : Int) l) fun r => Good s k r.1 := by
 unfold b41
 refine i_call (next_tot _ _ (by omega)) ?_
 rintro ⟨v4, l5⟩ ⟨h0, h1⟩
 refine i_sbind (sat_mono (R := fun o => ∃ v7, o = .inr v7 ∧ 0 ≤ v7 ∧ (k = 0 → v7 < 7)) ?_ ?_)
 · refine i_cond (fun c => sat_mk ⟨_, rfl, ?_, fun _ => ?_⟩) (fun c => sat_mk ⟨_, rfl, h0, fun h => ?_⟩)
   · exact Int.tmod_nonneg _ h0
   · exact Int.tmod_lt_of_pos _ (by omega)
   · subst h; cases c
 rintro _ ⟨v7, rfl, g0, g1⟩
 refine i_sbind ?_
 refine i_cond (fun c => i_lft (sat_mk (.leaf .unit))) (fun f0 => ?_)
 refine i_cond (fun c => i_call (pickI_tot _ _ (by simp) (by simp)) fun r hr => i_lft (sat_mk (.leaf (.num _ _ _ (by simp) ?_ ?_ (by omega))))) (fun f1 => ?_)
 · simp at hr; omega
 · simp at hr; omega
 refine i_cond (fun c => i_call (pickT_tot _ _ (by simp) (by simp)) fun r hr => ?_) (fun f2 => ?_)
 · obtain ⟨⟨k1, m1, lo1, hi1, p1, ps1⟩, l1⟩ := r
   refine i_lft (sat_mk ?_)
   simp only [List.mem_cons, List.not_mem_nil, or_false, Tp.mk.injEq] at hr
   rcases hr with ⟨rfl, rfl, rfl, rfl, rfl, rfl⟩ | ⟨rfl, rfl, rfl, rfl, rfl, rfl⟩ | ⟨rfl, rfl, rfl, rfl, rfl, rfl⟩ | ⟨rfl, rfl, rfl, rfl, rfl, rfl⟩ <;> exact .leaf (.num _ _ _ (by simp) (by omega) (by omega) (by omega))
 refine i_cond (fun c => i_call (pickI_tot _ _ (by simp) (by simp)) fun r hr => i_lft (sat_mk (.leaf (.num _ _ _ (by simp) (by omega) ?_ ?_)))) (fun f3 => ?_)
 · simp at hr; omega
 · simp at hr; omega
 refine i_sbind ?_
 refine sat_mono (R := fun o => ∃ b : Bool, o = .inr b ∧ (b = false → v7 ≠ 4 ∧ v7 ≠ 5)) ?_ ?_
 · exact i_cond (fun _ => sat_mk ⟨_, rfl, fun h => by cases h⟩) (fun f4 => i_cond (fun _ => sat_mk ⟨_, rfl, fun h => by cases h⟩) (fun f5 => sat_mk ⟨_, rfl, fun _ => ⟨by simpa using f4, by simpa using f5⟩⟩))
 rintro _ ⟨b, rfl, hb⟩
 refine i_cond (fun c => i_call (pickS_tot _ _ (by simp) (by simp)) fun r hr => i_lft (sat_mk (.leaf (.text _ ?_)))) (fun fb => ?_)
 · simp only [List.mem_cons, List.not_mem_nil, or_false] at hr
   unfold isPat
   rcases hr with h | h | h | h | h | h <;> simp [h]
 refine i_cond (fun c => i_cond (fun hl => ?_) (fun _ => i_lft (sat_mk (.leaf .float)))) (fun c6 => ?_)
 · have hl : 0 < s.length := by simpa using hl
   refine i_call (next_tot _ _ ?_) ?_
   · omega
   rintro ⟨v, l1⟩ ⟨n0, n1⟩
   refine i_getL n0 (by omega) fun u hu _ => ?_
   obtain ⟨a, ⟨k1, m1, lo1, hi1, p1, ps1⟩⟩ := u
   exact i_lft (sat_mk (.leaf (.named _ hu)))
 refine i_cond (fun c => ?_) (fun _ => ?_)
 · have hv : v7 = 7 := by simpa using c
   obtain ⟨k', rfl⟩ : ∃ k', k = k' + 1 := by
    cases k with
    | zero => have := g1 rfl; omega
    | succ k' => exact ⟨_, rfl⟩
   refine i_call (next_tot _ _ (by omega)) ?_
   rintro ⟨a, l1⟩ ⟨a0, a1⟩
   refine i_call (next_tot _ _ (by omega)) ?_
   rintro ⟨b, l2⟩ ⟨b0, b1⟩
   refine i_call (hs k' rfl l2) ?_
   rintro ⟨⟨k1, m1, lo1, hi1, p1, ps1⟩, l3⟩ hr
   refine i_lft (sat_mk ?_)
   dsimp only at a0 a1 b0 b1
   show Good s (k' + 1) (Tp.mk 8 e0 a (IntKind.wrap .i64 (a + b)) e0 [(e0, Tp.mk k1 m1 lo1 hi1 p1 ps1)])
   rw [wrap_id (by omega) (by omega)]
   exact .list a (a + b) hr a0 (by omega) (by omega)
 refine i_cond (fun c => ?_) (fun _ => ?_)
 · have hv : v7 = 8 := by simpa using c
   obtain ⟨k', rfl⟩ : ∃ k', k = k' + 1 := by
    cases k with
    | zero => have := g1 rfl; omega
    | succ k' => exact ⟨_, rfl⟩
   refine i_call (next_tot _ _ (by omega)) ?_
   rintro ⟨a, l1⟩ ⟨a0, a1⟩
   refine i_call (next_tot _ _ (by omega)) ?_
   rintro ⟨b, l2⟩ ⟨b0, b1⟩
   refine i_call (hs k' rfl l2) ?_
   rintro ⟨⟨k1, m1, lo1, hi1, p1, ps1⟩, l3⟩ hr
   refine i_lft (sat_mk ?_)
   dsimp only at a0 a1 b0 b1
   show Good s (k' + 1) (Tp.mk 9 e0 a (IntKind.wrap .i64 (2 + b)) ⟨#[91, 97, 45, 101, 93]⟩ [(e0, Tp.mk k1 m1 lo1 hi1 p1 ps1)])
   rw [wrap_id (by omega) (by omega)]
   exact .map a (2 + b) hr a0 (by omega) (by omega) (by omega)
 refine i_cond (fun c => ?_) (fun _ => ?_)
 · have hv : v7 = 9 := by simpa using c
   obtain ⟨k', rfl⟩ : ∃ k', k = k' + 1 := by
    cases k with
    | zero => have := g1 rfl; omega
    | succ k' => exact ⟨_, rfl⟩
   refine i_call (hs k' rfl _) ?_
   rintro ⟨⟨k1, m1, lo1, hi1, p1, ps1⟩, l3⟩ hr
   refine i_lft (sat_mk ?_)
   refine .choice _ (by simp) (by simp) ?_
   intro x hx
   simp only [List.mem_cons, List.not_mem_nil, or_false] at hx
   rcases hx with rfl | rfl
   · exact .leaf .unit
   · exact hr
 refine i_cond (fun c => ?_) (fun c10 => sat_mk ?_)
 · have hv : v7 = 10 := by simpa using c
   obtain ⟨k', rfl⟩ : ∃ k', k = k' + 1 := by
    cases k with
    | zero => have := g1 rfl; omega
    | succ k' => exact ⟨_, rfl⟩
   refine i_sbind ?_
   refine i_call (next_tot _ _ (by omega)) ?_
   rintro ⟨a, l1⟩ ⟨a0, a1⟩
   dsimp only at a0 a1
   refine i_grdP ?_ ?_
   · rw [wrap_id (by omega) (by omega)]; omega
   have hw : (IntKind.wrap .i64 ((1 : Int) + a) - 0).toNat = 1 + a.toNat := by rw [wrap_id (by omega) (by omega)]; omega
   refine sat_mono (typL4_tot s self k' _ (hs k' rfl) _ _ [] _ (by simp) (by rw [hw]; simp; omega)) ?_
   rintro o ⟨l', ps, rfl, hl, hp⟩
   refine i_lft (sat_mk (.choice ps ?_ ?_ hp))
   · rintro rfl; rw [hw] at hl; simp at hl; omega
   · rw [hl, hw]; simp; omega
 · obtain ⟨k', rfl⟩ : ∃ k', k = k' + 1 := by
    cases k with
    | zero =>
     have h7 := g1 rfl
     obtain ⟨f4, f5⟩ := hb fb
     simp at f0 f1 f2 f3 c6
     omega
    | succ k' => exact ⟨_, rfl⟩
   refine i_sbind ?_
   refine i_call (next_tot _ _ (by omega)) ?_
   rintro ⟨a, l1⟩ ⟨a0, a1⟩
   dsimp only at a0 a1
   refine i_grdP (by omega) ?_
   refine sat_mono (typL6_tot s self k' _ (hs k' rfl) _ _ [] _ (by simp) (by simp; omega)) ?_
   rintro o ⟨l', ps, rfl, hl, hp⟩
   refine sat_mk (.record ps ?_ hp)
   rw [hl]; simp; omega
theorem typ_tot (s : PT) (hsl : s.length ≤ 1000) : ∀ (k : Nat) (hk : k ≤ 3) (n : Nat) (hn : k < n) (l : List Int), sat (f41 n s (k : Int) l) fun r => Good s k r.1
 | k, hk, 0, hn, l => by omega
 | 0, hk, n + 1, hn, l => typ_body s hsl (f41 n) 0 hk (fun k' h => by omega) l
 | k + 1, hk, n + 1, hn, l => typ_body s hsl (f41 n) (k + 1) hk (fun k' h => by
  obtain rfl : k = k' := by omega
  rw [wrap_pred k (by omega)]
  exact typ_tot s hsl k (by omega) n (by omega)) l
theorem Type_tot (s : PT) (hsl : s.length ≤ 1000) (n : Nat) (hn : 3 < n) (l : List Int) : sat (f22 n s l) (Good s 3) := by
 unfold f22
 refine i_call (typ_tot s hsl 3 (by omega) n hn l) fun r hr => ?_
 obtain ⟨⟨k1, m1, lo1, hi1, p1, ps1⟩, l1⟩ := r
 exact sat_mk hr
def dTree : ByteArray × Tp := (⟨#[116, 114, 101, 101]⟩, .mk 6 e0 0 0 e0 [(⟨#[118, 97, 108]⟩, .mk 2 e0 0 9 e0 []), (⟨#[107, 105, 100, 115]⟩, .mk 8 e0 0 2 e0 [(e0, .mk 10 ⟨#[116, 114, 101, 101]⟩ 0 0 e0 [])])])
def dMaybe : ByteArray × Tp := (⟨#[109, 97, 121, 98, 101]⟩, .mk 7 e0 0 0 e0 [(⟨#[110, 111, 110, 101]⟩, .mk 0 e0 0 0 e0 []), (⟨#[115, 111, 109, 101]⟩, .mk 2 e0 0 9 e0 [])])
def dAliasN : ByteArray × Tp := (⟨#[97, 108, 105, 97, 115]⟩, .mk 2 e0 0 9 e0 [])
def dAliasT : ByteArray × Tp := (⟨#[97, 108, 105, 97, 115]⟩, .mk 5 e0 0 0 ⟨#[91, 97, 45, 99, 93, 42]⟩ [])
def Sch (s : PT) : Prop := ∃ a b c, (a = [] ∨ a = [dTree]) ∧ (b = [] ∨ b = [dMaybe]) ∧ (c = [] ∨ c = [dAliasN] ∨ c = [dAliasT]) ∧ s = a ++ b ++ c
theorem Schema_tot (l : List Int) : sat (f21 l) Sch := by
 unfold f21
 refine i_sbind (sat_mono (R := fun o => ∃ l' a, o = .inr (l', a) ∧ (a = [] ∨ a = [dTree])) ?_ ?_)
 · refine i_call (next_tot _ _ (by omega)) fun r _ => i_cond (fun _ => i_grdP (by simp) (sat_mk ⟨_, _, rfl, .inr rfl⟩)) (fun _ => sat_mk ⟨_, _, rfl, .inl rfl⟩)
 rintro _ ⟨l', a, rfl, ha⟩
 have hal : a.length ≤ 1 := by rcases ha with rfl | rfl <;> simp
 refine i_sbind (sat_mono (R := fun o => ∃ l' b, o = .inr (l', a ++ b) ∧ (b = [] ∨ b = [dMaybe])) ?_ ?_)
 · refine i_call (next_tot _ _ (by omega)) fun r _ => i_cond (fun _ => ?_) (fun _ => sat_mk ⟨_, [], by rw [List.append_nil], .inl rfl⟩)
   exact i_call (Q := fun t => t = dMaybe.2) (sat_mk rfl) fun r hr => by subst hr; exact i_grdP (by simp; omega) (sat_mk ⟨_, [dMaybe], rfl, .inr rfl⟩)
 rintro _ ⟨l2, b, rfl, hb⟩
 have hbl : b.length ≤ 1 := by rcases hb with rfl | rfl <;> simp
 refine i_call (next_tot _ _ (by omega)) fun r _ => i_cond (fun _ => ?_) (fun _ => sat_mk ⟨a, b, [], ha, hb, .inl rfl, by rw [List.append_nil]⟩)
 refine i_call (pickT_tot _ _ (by simp) (by simp)) fun r hr => ?_
 obtain ⟨t, l3⟩ := r
 simp only [List.mem_cons, List.not_mem_nil, or_false] at hr
 rcases hr with rfl | rfl
 · exact i_grdP (by simp; omega) (sat_mk ⟨a, b, [dAliasN], ha, hb, .inr (.inl rfl), rfl⟩)
 · exact i_grdP (by simp; omega) (sat_mk ⟨a, b, [dAliasT], ha, hb, .inr (.inr rfl), rfl⟩)
theorem Sch.length {s : PT} (h : Sch s) : s.length ≤ 3 := by
 obtain ⟨a, b, c, ha, hb, hc, rfl⟩ := h
 rcases ha with rfl | rfl <;> rcases hb with rfl | rfl <;> rcases hc with rfl | rfl | rfl <;> simp
def kindT : Tp → Int | .mk k _ _ _ _ _ => k
end Go.Clap
