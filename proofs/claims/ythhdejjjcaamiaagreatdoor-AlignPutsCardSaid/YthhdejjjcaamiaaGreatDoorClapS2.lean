/- Lists of small records: the views of a list. -/
import Derived.Test.YthhdejjjcaamiaaGreatDoorClapS1
set_option linter.unusedVariables false
set_option linter.unusedSimpArgs false
set_option maxRecDepth 1000000
set_option maxHeartbeats 4000000
namespace Go.Clap

abbrev o1 : Tp := Tp.mk 6 ee 0 0 ee [(aa, dg)]
abbrev LE : Ln := Ln.mk 13 aa ee [] 0 0 0 0 (V.mk 0 0 ee []) [] [dp bb 7]
abbrev El (x : Int × Int) : ByteArray × V := (ee, rc x.1 x.2)
abbrev Wl (x : Int × Int) : ByteArray × V := (ee, on aa x.1)
/-- Pairs of digits. -/
def Dg (x : Int × Int) : Prop := x.1 ∈ dig ∧ x.2 ∈ dig

theorem rc_sz : ∀ a ∈ dig, ∀ b ∈ dig, f75 11 (rc a b) = some 3 := tab2 (by kernel_rfl)
theorem rc_dp : ∀ a ∈ dig, ∀ b ∈ dig, f76 11 (rc a b) = some 2 := tab2 (by kernel_rfl)
theorem rc_nd : ∀ a ∈ dig, ∀ b ∈ dig, f77 11 (rc a b) false = some 0 := tab2 (by kernel_rfl)
theorem rc_cp : ∀ a ∈ dig, ∀ b ∈ dig, f57 11 (rc a b) = some (rc a b) := tab2 (by kernel_rfl)
theorem rc_hs : ∀ a ∈ dig, ∀ b ∈ dig, f1039 12 [] pr (rc a b) = some ([], true) := tab2 (by kernel_rfl)
theorem on_sz : ∀ a ∈ dig, f75 11 (on aa a) = some 2 := tab1 (by kernel_rfl)
theorem on_dp : ∀ a ∈ dig, f76 11 (on aa a) = some 2 := tab1 (by kernel_rfl)
theorem on_nd : ∀ a ∈ dig, f77 11 (on aa a) false = some 0 := tab1 (by kernel_rfl)
theorem on_cp : ∀ a ∈ dig, f57 11 (on aa a) = some (on aa a) := tab1 (by kernel_rfl)
theorem on_hs : ∀ a ∈ dig, f1039 12 [] o1 (on aa a) = some ([], true) := tab1 (by kernel_rfl)
theorem rc_vw : ∀ a ∈ dig, ∀ b ∈ dig, (S1048 10).1 (dp bb 7) (rc a b) = some (on aa a) := tab2 (by kernel_rfl)

theorem ge_rc {a b : Int} (ha : a ∈ dig) (hb : b ∈ dig) : GE pr (ee, rc a b) :=
  ⟨rfl, ⟨3, rc_sz a ha b hb, by decide, by decide⟩, ⟨2, rc_dp a ha b hb, by decide, by decide⟩, rc_nd a ha b hb, rc_cp a ha b hb, rc_hs a ha b hb⟩
theorem ge_on {a : Int} (ha : a ∈ dig) : GE o1 (ee, on aa a) :=
  ⟨rfl, ⟨2, on_sz a ha, by decide, by decide⟩, ⟨2, on_dp a ha, by decide, by decide⟩, on_nd a ha, on_cp a ha, on_hs a ha⟩
theorem ge_E {la : List (Int × Int)} (h : ∀ x ∈ la, Dg x) : ∀ x ∈ la.map El, GE pr x := by
  intro x hx
  obtain ⟨y, hy, rfl⟩ := List.mem_map.1 hx
  exact ge_rc (h y hy).1 (h y hy).2
theorem ge_W {la : List (Int × Int)} (h : ∀ x ∈ la, Dg x) : ∀ x ∈ la.map Wl, GE o1 x := by
  intro x hx
  obtain ⟨y, hy, rfl⟩ := List.mem_map.1 hx
  exact ge_on (h y hy).1

theorem rt_pr : f83 12 [] (lt pr) = some 0 := by kernel_rfl
theorem rt_o1 : f83 12 [] (lt o1) = some 0 := by kernel_rfl
theorem vw_t : f1032 12 [] LE (lt pr) = some (lt o1, 0) := by kernel_rfl

theorem ga {α : Type} (D : List α) (x : α) (t : List α) : (D ++ x :: t)[D.length]? = some x := by
  rw [List.getElem?_append_right (Nat.le_refl _), Nat.sub_self]; rfl
theorem sa {α : Type} (D : List α) (x y : α) (t : List α) : (D ++ x :: t).set D.length y = (D ++ [y]) ++ t := by
  rw [List.set_append_right _ _ (Nat.le_refl _), Nat.sub_self]; simp

theorem parts_l : ∀ (r : List (Int × Int)) (D : List (ByteArray × V)), (∀ x ∈ r, Dg x) → f1049_L4 (S1048 10).1 [dp bb 7] r.length (D.length : Int) (D ++ r.map El) = some (.inr (D ++ r.map Wl))
  | [], D, _ => by
    show f1049_L4 (S1048 10).1 [dp bb 7] 0 (D.length : Int) (D ++ [].map El) = _
    rw [f1049_L4]; rfl
  | (p, q) :: r, D, h => by
    have hx := h (p, q) List.mem_cons_self
    have hl : (D ++ ((p, q) :: r).map El).length = D.length + r.length + 1 := by simp; omega
    have hg : (D ++ ((p, q) :: r).map El)[D.length]? = some (ee, rc p q) := ga D _ _
    have hv : (S1048 10).1 (Ln.mk 4 bb ee [] 0 0 0 0 (V.mk 2 7 ee []) [] []) (V.mk 6 0 ee (fs p q)) = some (on aa p) := rc_vw p hx.1 q hx.2
    rw [List.length_cons, f1049_L4, gr_t (by rw [hl]; omega), Int.toNat_natCast, Nat.zero_add, gn_t hg]
    simp only
    rw [gl_0]
    simp only
    rw [hv]
    simp only [bso]
    rw [gr_t (by rw [hl]; omega), gn_t hg]
    simp only
    rw [List.map_cons, sa]
    have ih := parts_l r (D ++ [(ee, on aa p)]) (fun x hx => h x (List.mem_cons_of_mem _ hx))
    have e1 : (((D ++ [((ee : ByteArray), on aa p)]).length : Nat) : Int) = (D.length : Int) + 1 := by simp
    rw [e1] at ih
    refine ih.trans ?_
    simp

theorem of_l {la : List (Int × Int)} (h : ∀ x ∈ la, Dg x) (hl : la.length ≤ 7) : f1048 12 LE (V.mk 8 0 ee (la.map El)) = some (V.mk 8 0 ee (la.map Wl)) := by
  have e1 : f1048 12 LE (V.mk 8 0 ee (la.map El)) = b1048 (S1048 11).2 LE (V.mk 8 0 ee (la.map El)) := rfl
  have e2 : (S1048 11).2 = b1049 (S1048 10).1 := rfl
  rw [e1]
  unfold b1048 f79
  dsimp only
  rw [gr_t (by rw [List.length_map]; omega), e2]
  simp only [bso, show ((13 : Int) == 1) = false from rfl, show ((13 : Int) == 16) = false from rfl, show ((13 : Int) == 17) = false from rfl, show ((13 : Int) == 18) = false from rfl, show ((13 : Int) == 11) = false from rfl, show ((13 : Int) == 12) = false from rfl, cond_false]
  unfold b1049
  dsimp only
  rw [gr_t (by rw [List.length_map]; omega), show ((((la.map El).length : Nat) : Int) - 0).toNat = la.length by rw [List.length_map]; omega]
  have := parts_l la [] h
  simp only [List.length_nil, List.nil_append, show ((0 : Nat) : Int) = 0 from rfl] at this
  rw [this]
  rfl

theorem get_l {la : List (Int × Int)} (h : ∀ x ∈ la, Dg x) (hl : la.length ≤ 7) : f1047 12 [] LE (lt pr) (V.mk 8 0 ee (la.map El)) = some (V.mk 8 0 ee (la.map Wl), 0) := by
  unfold f1047
  dsimp only
  rw [vw_t]
  simp only [bso]
  rw [has_l rt_pr (ge_E h) (by rw [List.length_map]; exact hl), copy_l (ge_E h) (by rw [List.length_map]; exact hl)]
  simp only [bso, show ((0 : Int) != 0) = false from rfl, cond_true, cond_false]
  rw [of_l h hl]
  simp only [bso, sbr]
  rw [check_l (ge_W h) (by rw [List.length_map]; exact hl)]
  rfl
end Go.Clap
