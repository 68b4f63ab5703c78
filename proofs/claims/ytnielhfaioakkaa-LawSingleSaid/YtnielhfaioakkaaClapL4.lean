/- types.Right, resolve, Copy give a value at the makers' types. -/
import Derived.Test.YtnielhfaioakkaaClapL3
import Derived.Test.YtnielhfaioakkaaClapL1
set_option linter.unusedVariables false
set_option linter.unusedSimpArgs false
namespace Go.Clap

theorem loop_ne (s : ByteArray) : ∀ (m i : Nat) (r : List UInt8), s.size - i ≤ m → r ≠ [] → ByteArray.toList.loop s i r ≠ []
  | 0, i, r, hm, hr => by
    rw [ByteArray.toList.loop, if_neg (by omega)]
    simpa using hr
  | m + 1, i, r, hm, hr => by
    rw [ByteArray.toList.loop]
    split
    · exact loop_ne s m (i + 1) _ (by omega) (by simp)
    · simpa using hr
theorem toList_nil : (⟨#[]⟩ : ByteArray).toList = [] := by
  rw [ByteArray.toList, ByteArray.toList.loop, if_neg (by simp [ByteArray.size])]
  rfl
theorem toList_pos {s : ByteArray} (h : (s.toList == (⟨#[]⟩ : ByteArray).toList) = false) : 0 < s.size := by
  rcases Nat.eq_zero_or_pos s.size with h0 | h0
  · exfalso
    rw [toList_nil] at h
    have : s.toList = [] := by
      rw [ByteArray.toList, ByteArray.toList.loop, if_neg (by omega)]
      rfl
    rw [this] at h
    cases h
  · exact h0
theorem i_getB {β : Type} {s : ByteArray} {i : Int} {f : UInt8 → Option β} {R : β → Prop} (h0 : 0 ≤ i) (hi : i < s.size) (h : ∀ u, s.data[i.toNat]? = some u → sat (f u) R) : sat (getB s i f) R := by
  unfold getB
  have hi' : i.toNat < s.data.size := by have : s.size = s.data.size := rfl; omega
  rw [if_pos h0, Array.getElem?_eq_getElem hi']
  exact h _ (Array.getElem?_eq_getElem hi')

theorem nameL_tot : ∀ (l : List Int) (j : Nat), sat (f132_Name_L2 l j) fun _ => True
  | [], j => sat_mk trivial
  | c :: tl, j => by
    unfold f132_Name_L2
    have hb : ∀ (b : Bool), sat (cond b (f132_Name_L2 tl (j + 1)) (lft (some false))) fun _ => True := fun b => i_cond (fun _ => nameL_tot tl (j + 1)) (fun _ => i_lft (sat_mk trivial))
    have h1 : ∀ (m : Option (Sum (Sum Bool Unit) Bool)) (K : Bool → Option (Sum Bool Unit)), (∀ b, sat (K b) fun _ => True) → sat m (fun o => ∃ b, o = .inr b) → sat (sbind m K) fun _ => True := by
      intro m K hK hm
      refine i_sbind (sat_mono hm ?_)
      rintro _ ⟨b, rfl⟩
      exact hK b
    refine h1 _ _ (fun b => h1 _ _ (fun b => h1 _ _ hb ?_) ?_) ?_
    all_goals repeat' first | exact sat_mk ⟨_, rfl⟩ | refine i_cond (fun _ => ?_) (fun _ => ?_)
theorem Name_tot (s : ByteArray) : sat (f132_Name s) fun _ => True := by
  unfold f132_Name
  refine i_cond (fun _ => sat_mk trivial) (fun h => i_cond (fun _ => sat_mk trivial) (fun h16 => ?_))
  have hp := toList_pos h
  have h16 : ¬ (s.size : Int) > 16 := by simpa using h16
  refine i_getB (by omega) (by omega) fun u _ => i_cond (fun _ => sat_mk trivial) (fun _ => i_getB (by omega) (by omega) fun u _ => i_cond (fun _ => sat_mk trivial) (fun _ => i_sbind (i_grdP (by omega) (sat_mono (nameL_tot _ _) ?_))))
  rintro (b | b) _
  · trivial
  · exact sat_mk trivial

theorem find_tot (s : PT) (nm : ByteArray) : sat (f107_find s nm) fun i => -1 ≤ i ∧ i < s.length := by
  have hL : ∀ (l : PT) (j : Nat), sat (f136_IndexFunc_L2 nm l j) fun o => o = .inr () ∨ ∃ i : Int, o = .inl i ∧ 0 ≤ i ∧ i < j + l.length := by
    intro l
    induction l with
    | nil => intro j; exact sat_mk (.inl rfl)
    | cons x tl ih =>
      intro j
      obtain ⟨a, ⟨k, m, lo, hi, p, ps⟩⟩ := x
      unfold f136_IndexFunc_L2
      refine i_call (Q := fun _ => True) ?_ fun b _ => i_cond (fun _ => i_lft (sat_mk (.inr ⟨_, rfl, by omega, by simp; omega⟩))) (fun _ => sat_mono (ih (j + 1)) ?_)
      · unfold f137_1
        exact i_cond (fun _ => sat_mk trivial) (fun _ => sat_mk trivial)
      · rintro o (h | ⟨i, h, h0, h1⟩)
        · exact .inl h
        · exact .inr ⟨i, h, h0, by simp at h1 ⊢; omega⟩
  unfold f107_find f136_IndexFunc
  refine i_bind (i_sbind (sat_mono (hL s 0) ?_))
  rintro o (rfl | ⟨i, rfl, h0, h1⟩)
  · exact sat_mk (sat_mk ⟨by omega, by omega⟩)
  · exact sat_mk ⟨by omega, by simpa using h1⟩

/-- A type of at most k levels whose patterns are the makers'. -/
def isPat5 (p : ByteArray) : Prop := isPat p ∨ p = ⟨#[91, 97, 45, 101, 93]⟩
inductive Pk : Nat → Tp → Prop
  | mk {k : Nat} (kd : Int) (nm : ByteArray) (lo hi : Int) (p : ByteArray) (ps : PT) (h1 : ps.length ≤ 8) (h2 : kd = 5 ∨ kd = 9 → isPat5 p) (h : ∀ x, x ∈ ps → Pk k x.2) : Pk (k + 1) (.mk kd nm lo hi p ps)
theorem Pk.mono {k m : Nat} {t : Tp} (h : Pk k t) : k ≤ m → Pk m t := by
  induction h generalizing m with
  | mk kd nm lo hi p ps h1 h2 h ih =>
    intro hm
    cases m with
    | zero => omega
    | succ m => exact .mk kd nm lo hi p ps h1 h2 fun x hx => ih x hx (by omega)
theorem Good.pk {s : PT} {k : Nat} {t : Tp} (h : Good s k t) : Pk (k + 1) t := by
  induction h with
  | leaf h =>
    cases h with
    | unit => exact .mk _ _ _ _ _ _ (by simp) (by omega) (by simp)
    | num k lo hi hk h0 h1 h2 => exact .mk _ _ _ _ _ _ (by simp) (by omega) (by simp)
    | text p h => exact .mk _ _ _ _ _ _ (by simp) (fun _ => .inl h) (by simp)
    | float => exact .mk _ _ _ _ _ _ (by simp) (by omega) (by simp)
    | named d h => exact .mk _ _ _ _ _ _ (by simp) (by omega) (by simp)
  | list lo hi h h0 h1 h2 ih => exact .mk _ _ _ _ _ _ (by simp) (by omega) (by simpa using ih)
  | map lo hi h h0 h1 h3 h2 ih => exact .mk _ _ _ _ _ _ (by simp) (fun _ => .inr rfl) (by simpa using ih)
  | choice ps h0 h1 h ih => exact .mk _ _ _ _ _ _ h1 (by omega) ih
  | record ps h1 h ih => exact .mk _ _ _ _ _ _ h1 (by omega) ih
theorem Sch.pk {s : PT} (h : Sch s) : ∀ d, d ∈ s → Pk 3 d.2 := by
  have hT : Pk 3 dTree.2 := .mk _ _ _ _ _ _ (by simp) (by omega) (by
    intro x hx
    simp only [List.mem_cons, List.not_mem_nil, or_false] at hx
    rcases hx with rfl | rfl
    · exact .mk _ _ _ _ _ _ (by simp) (by omega) (by simp)
    · exact .mk _ _ _ _ _ _ (by simp) (by omega) (by
        intro x hx
        simp only [List.mem_cons, List.not_mem_nil, or_false] at hx
        subst hx
        exact .mk _ _ _ _ _ _ (by simp) (by omega) (by simp)))
  have hM : Pk 3 dMaybe.2 := .mk _ _ _ _ _ _ (by simp) (by omega) (by
    intro x hx
    simp only [List.mem_cons, List.not_mem_nil, or_false] at hx
    rcases hx with rfl | rfl
    · exact .mk _ _ _ _ _ _ (by simp) (by omega) (by simp)
    · exact .mk _ _ _ _ _ _ (by simp) (by omega) (by simp))
  have hN : Pk 3 dAliasN.2 := .mk _ _ _ _ _ _ (by simp) (by omega) (by simp)
  have hX : Pk 3 dAliasT.2 := .mk _ _ _ _ _ _ (by simp) (fun _ => .inl (.inr (.inl rfl))) (by simp)
  obtain ⟨a, b, c, ha, hb, hc, rfl⟩ := h
  intro d hd
  rcases List.mem_append.1 hd with hd | hd
  · rcases List.mem_append.1 hd with hd | hd
    · rcases ha with rfl | rfl
      · cases hd
      · obtain rfl := List.mem_singleton.1 hd; exact hT
    · rcases hb with rfl | rfl
      · cases hd
      · obtain rfl := List.mem_singleton.1 hd; exact hM
  · rcases hc with rfl | rfl | rfl
    · cases hd
    · obtain rfl := List.mem_singleton.1 hd; exact hN
    · obtain rfl := List.mem_singleton.1 hd; exact hX

theorem Check_tot {p : ByteArray} (h : isPat5 p) (n : Nat) : sat (f160_Check (n + 300) p) fun _ => True := by
  rcases h with (rfl | rfl | rfl | rfl | rfl) | rfl
  · exact ⟨_, chk_p0 n, trivial⟩
  · exact ⟨_, chk_p1 n, trivial⟩
  · exact ⟨_, chk_p2 n, trivial⟩
  · exact ⟨_, chk_p3 n, trivial⟩
  · exact ⟨_, chk_p4 n, trivial⟩
  · exact ⟨_, chk_p5 n, trivial⟩

theorem Size_tot : ∀ (n k : Nat) (hk : k ≤ n) (t : Tp) (h : Pk k t), sat (f133_Size n t) fun _ => True
  | 0, k, hk, t, h => by cases h; omega
  | n + 1, k, hk, t, h => by
    cases h with
    | mk kd nm lo hi p ps h1 h2 h =>
    rename_i k
    have hL : ∀ (l : PT) (j : Nat) (v : Int), (∀ x, x ∈ l → x ∈ ps) → sat (f133_Size_L2 (f133_Size n) l j v) fun o => ∃ v, o = .inr v := by
      intro l
      induction l with
      | nil => intro j v _; exact sat_mk ⟨_, rfl⟩
      | cons x tl ih =>
        intro j v hx
        obtain ⟨a, ⟨k1, m1, lo1, hi1, p1, ps1⟩⟩ := x
        exact i_call (Size_tot n k (by omega) _ (h (a, .mk k1 m1 lo1 hi1 p1 ps1) (hx _ (by simp)))) fun v1 _ => ih _ _ fun x hm => hx x (by simp [hm])
    show sat (b133_Size (f133_Size n) (.mk kd nm lo hi p ps)) _
    refine i_sbind (sat_mono (hL ps 0 1 fun x hx => hx) ?_)
    rintro _ ⟨v, rfl⟩
    exact sat_mk trivial
theorem Deep_tot : ∀ (n k : Nat) (hk : k ≤ n) (t : Tp) (h : Pk k t), sat (f134_Deep n t) fun _ => True
  | 0, k, hk, t, h => by cases h; omega
  | n + 1, k, hk, t, h => by
    cases h with
    | mk kd nm lo hi p ps h1 h2 h =>
    rename_i k
    have hL : ∀ (l : PT) (j : Nat) (v : Int), (∀ x, x ∈ l → x ∈ ps) → sat (f134_Deep_L2 (f134_Deep n) l j v) fun o => ∃ v, o = .inr v := by
      intro l
      induction l with
      | nil => intro j v _; exact sat_mk ⟨_, rfl⟩
      | cons x tl ih =>
        intro j v hx
        obtain ⟨a, ⟨k1, m1, lo1, hi1, p1, ps1⟩⟩ := x
        exact i_call (Deep_tot n k (by omega) _ (h (a, .mk k1 m1 lo1 hi1 p1 ps1) (hx _ (by simp)))) fun v1 _ => ih _ _ fun x hm => hx x (by simp [hm])
    show sat (b134_Deep (f134_Deep n) (.mk kd nm lo hi p ps)) _
    refine i_sbind (sat_mono (hL ps 0 0 fun x hx => hx) ?_)
    rintro _ ⟨v, rfl⟩
    exact sat_mk trivial

theorem contains_tot (l : PT) (s2 : ByteArray) (v3 : Int) (s4 : ByteArray) (v5 v6 : Int) (s7 : ByteArray) (l8 : PT) : sat (f171_ContainsFunc l s2 v3 s4 v5 v6 s7 l8) fun _ => True := by
  have hL : ∀ (l : PT) (j : Nat), sat (f175_IndexFunc_L2 s2 v3 s4 v5 v6 s7 l8 l j) fun _ => True := by
    intro l
    induction l with
    | nil => intro j; exact sat_mk trivial
    | cons x tl ih =>
      intro j
      obtain ⟨a, ⟨k, m, lo, hi, p, ps⟩⟩ := x
      refine i_call (Q := fun _ => True) ?_ fun b _ => i_cond (fun _ => i_lft (sat_mk trivial)) (fun _ => ih (j + 1))
      unfold f172_1
      exact i_cond (fun _ => sat_mk trivial) (fun _ => sat_mk trivial)
  unfold f171_ContainsFunc f175_IndexFunc
  refine i_bind (i_sbind (sat_mono (hL l 0) ?_))
  rintro (o | o) _
  · exact i_cond (fun _ => sat_mk trivial) (fun _ => sat_mk trivial)
  · exact sat_mk (i_cond (fun _ => sat_mk trivial) (fun _ => sat_mk trivial))

theorem partsL3_tot (ps : PT) : ∀ (l : PT) (j : Nat), j + l.length ≤ ps.length → sat (f167_parts_L3 ps l j) fun _ => True
  | [], j, hj => sat_mk trivial
  | (a, .mk k m lo hi p qs) :: tl, j, hj => by
    simp only [List.length_cons] at hj
    refine i_call (Name_tot a) fun b _ => i_cond (fun _ => i_grdP ⟨by omega, by omega, by omega⟩ (i_call (contains_tot ..) fun b _ => i_cond (fun _ => i_lft (sat_mk trivial)) (fun _ => partsL3_tot ps tl (j + 1) (by omega)))) (fun _ => i_lft (sat_mk trivial))
theorem partsL4_tot (ps : PT) : ∀ (l : PT) (j : Nat), j + l.length ≤ ps.length → sat (f167_parts_L4 ps l j) fun _ => True
  | [], j, hj => sat_mk trivial
  | (a, .mk k m lo hi p qs) :: tl, j, hj => by
    simp only [List.length_cons] at hj
    refine i_call (Name_tot a) fun b _ => i_cond (fun _ => i_grdP ⟨by omega, by omega, by omega⟩ (i_call (contains_tot ..) fun b _ => i_cond (fun _ => i_lft (sat_mk trivial)) (fun _ => partsL4_tot ps tl (j + 1) (by omega)))) (fun _ => i_lft (sat_mk trivial))
/-- A test of several ways. -/
theorem i_test {τ : Type} {m : Option (Sum τ Bool)} {K : Bool → Option τ} {R : τ → Prop} (h : sat m fun o => ∃ b, o = .inr b) (k : ∀ b, sat (K b) R) : sat (sbind m K) R := by
  refine i_sbind (sat_mono h ?_)
  rintro _ ⟨b, rfl⟩
  exact k b
theorem parts_tot (t : Tp) : sat (f167_parts t) fun _ => True := by
  obtain ⟨k, m, lo, hi, p, ps⟩ := t
  unfold f167_parts
  refine i_sbind (sat_mono (R := fun _ => True) ?_ ?_)
  · refine i_test ?_ fun b => i_cond (fun _ => i_cond (fun _ => i_lft (sat_mk trivial)) (fun h => ?_)) (fun _ => i_test ?_ fun b => i_cond (fun _ => i_cond (fun _ => i_lft (sat_mk trivial)) (fun _ => i_cond (fun _ => i_cond (fun _ => i_lft (sat_mk trivial)) (fun _ => partsL4_tot ps ps 0 (by omega))) (fun _ => partsL3_tot ps ps 0 (by omega)))) (fun _ => sat_mk trivial))
    · repeat' first | exact sat_mk ⟨_, rfl⟩ | refine i_cond (fun _ => ?_) (fun _ => ?_)
    · have h : (ps.length : Int) = 1 := by simpa using h
      refine i_getL (by omega) (by omega) fun u _ _ => ?_
      obtain ⟨a, ⟨k, m, lo, hi, p, qs⟩⟩ := u
      exact i_cond (fun _ => i_lft (sat_mk trivial)) (fun _ => sat_mk trivial)
    · repeat' first | exact sat_mk ⟨_, rfl⟩ | refine i_cond (fun _ => ?_) (fun _ => ?_)
  · rintro (o | o) _
    · trivial
    · exact sat_mk trivial
theorem unused_tot (t : Tp) : sat (f166_unused t) fun _ => True := by
  obtain ⟨k, m, lo, hi, p, ps⟩ := t
  unfold f166_unused
  repeat' first | exact sat_mk trivial | exact sat_mk ⟨_, rfl⟩ | refine i_cond (fun _ => ?_) (fun _ => ?_) | refine i_test ?_ fun b => ?_
theorem bounds_tot (v : Int) : sat (f165_bounds v) fun _ => True := by
  unfold f165_bounds
  repeat' first | exact sat_mk trivial | refine i_cond (fun _ => ?_) (fun _ => ?_)
theorem own_tot (s : PT) (k : Nat) (t : Tp) (h : Pk k t) (n : Nat) : sat (f154_own (n + 300) s t) fun _ => True := by
  cases h with
  | mk kd nm lo hi p ps h1 h2 h =>
  unfold f154_own
  refine i_call (bounds_tot _) fun r _ => ?_
  obtain ⟨v8, v9⟩ := r
  refine i_cond (fun _ => sat_mk trivial) (fun _ => i_cond (fun _ => sat_mk trivial) (fun _ => i_call (unused_tot _) fun q _ => i_cond (fun _ => sat_mk trivial) (fun _ => i_cond (fun _ => sat_mk trivial) (fun _ => i_cond (fun _ => sat_mk trivial) (fun _ => i_cond (fun _ => sat_mk trivial) (fun _ => ?_))))))
  have hp : sat ((f167_parts (.mk kd nm lo hi p ps)).bind fun r => match r with | v => some v) fun _ => True := i_call (parts_tot _) fun _ _ => sat_mk trivial
  refine i_cond (fun c => i_call (Check_tot (h2 (.inl (by simpa using c))) n) fun _ _ => i_cond (fun _ => sat_mk trivial) (fun _ => hp)) (fun _ => i_cond (fun c => i_call (Check_tot (h2 (.inr (by simpa using c))) n) fun _ _ => i_cond (fun _ => sat_mk trivial) (fun _ => hp)) (fun _ => i_cond (fun _ => i_call (find_tot _ _) fun _ _ => i_cond (fun _ => sat_mk trivial) (fun _ => hp)) (fun _ => hp)))
theorem node_tot (s : PT) : ∀ (k : Nat) (t : Tp) (h : Pk k t) (n : Nat), sat (f135_node (n + 300 + k) s t) fun _ => True
  | 0, t, h, n => by cases h
  | k + 1, t, h, n => by
    have hown := own_tot s (k + 1) t h (n + k)
    cases h with
    | mk kd nm lo hi p ps h1 h2 h =>
    have hL : ∀ (l : PT) (j : Nat), (∀ x, x ∈ l → x ∈ ps) → sat (f135_node_L2 (f135_node (n + 300 + k)) s l j) fun _ => True := by
      intro l
      induction l with
      | nil => intro j _; exact sat_mk trivial
      | cons x tl ih =>
        intro j hx
        obtain ⟨a, ⟨k1, m1, lo1, hi1, p1, ps1⟩⟩ := x
        exact i_call (node_tot s k _ (h (a, .mk k1 m1 lo1 hi1 p1 ps1) (hx _ (by simp))) n) fun v1 _ => i_cond (fun _ => i_lft (sat_mk trivial)) (fun _ => ih _ fun x hm => hx x (by simp [hm]))
    show sat (b135_node (n + 300 + k) (f135_node (n + 300 + k)) s (.mk kd nm lo hi p ps)) _
    have e : n + k + 300 = n + 300 + k := by omega
    rw [e] at hown
    refine i_call hown fun _ _ => i_cond (fun _ => sat_mk trivial) (fun _ => i_sbind (sat_mono (hL ps 0 fun x hx => hx) ?_))
    rintro (o | o) _
    · trivial
    · exact sat_mk trivial
theorem right_tot (s : PT) (k : Nat) (hk : k ≤ 10) (t : Tp) (h : Pk k t) (n : Nat) : sat (f106_right (n + 310) s t) fun _ => True := by
  have h1 := Size_tot (n + 310) k (by omega) t h
  have h2 := Deep_tot (n + 310) k (by omega) t h
  have h3 := node_tot s k t h (n + 10 - k)
  have e : n + 10 - k + 300 + k = n + 310 := by omega
  rw [e] at h3
  obtain ⟨kd, nm, lo, hi, p, ps⟩ := t
  unfold f106_right
  exact i_call h1 fun _ _ => i_cond (fun _ => sat_mk trivial) (fun _ => i_call h2 fun _ _ => i_cond (fun _ => sat_mk trivial) (fun _ => i_call h3 fun _ _ => sat_mk trivial))
end Go.Clap
