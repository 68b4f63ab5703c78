/- Contracts: the fact on alignments, the law AlignMetric. -/
import Derived.Test.YtnielhfaioakkaaGreatClapP0
set_option linter.unusedVariables false
set_option linter.unusedSimpArgs false
namespace Go.Clap
variable {O : Oracle TT}

abbrev LIS := List Int
/-- What ByEdits gives of the makers' lists. -/
def edD (x y : LIS) : D TT := .tup [lD .pair (pathL (listV x).fs (listV y).fs 0 0), iD (distL (listV x).fs (listV y).fs), iD 0]

theorem vc10 (h8 : ∀ l : LIS, Gives O 8 [lD .int l] (vD (listV l))) (h9 : ∀ x y : LIS, Gives O 9 [vD (listV x), vD (listV y)] (edD x y)) (R : RR) (hR : R (bD true) []) :
    vcF (S := SS) O ir10 [] [] R := by
  have g9 := h9 [1, 2] [2]
  rw [edD, aligned_dist.1, aligned_dist.2] at g9
  refine ⟨by show 0 ≤ 31; omega, rfl, ?_⟩
  conv => whnf
  refine ⟨[], ?_⟩
  conv => whnf
  refine h8 [1, 2] _ ?_
  conv => whnf
  refine ⟨[], ?_⟩
  conv => whnf
  refine h8 [2] _ ?_
  conv => whnf
  refine ⟨[], ?_⟩
  conv => whnf
  refine g9 _ ?_
  conv => whnf
  intro t ht
  obtain rfl : t = true := ht
  conv => whnf
  intro t ht
  obtain rfl : t = true := ht
  conv => whnf
  intro _
  conv => whnf
  intro t ht
  obtain rfl : t = true := ht
  conv => whnf
  refine ⟨(by decide : (0 : Int) ≤ 0 ∧ (0 : Int) < (([(1, 0)] : List (Int × Int)).length : Int)), fun (u : Int × Int) (hu : ([(1, 0)] : List (Int × Int))[(0 : Int).toNat]? = some u) => ?_⟩
  obtain rfl : ((1, 0) : Int × Int) = u := Option.some.inj hu
  conv => whnf
  intro t ht
  obtain rfl : t = true := ht
  exact ⟨[], .nil, hR⟩

theorem vc3_of (x y : LIS) (A B : FL) (p1 p2 : List (Int × Int)) (d : Int) (gx : Gives O 8 [lD .int x] (vD (.mk 8 0 nmE A))) (gy : Gives O 8 [lD .int y] (vD (.mk 8 0 nmE B)))
    (g9 : Gives O 9 [vD (.mk 8 0 nmE A), vD (.mk 8 0 nmE B)] (.tup [lD .pair p1, iD d, iD 0])) (g9' : Gives O 9 [vD (.mk 8 0 nmE B), vD (.mk 8 0 nmE A)] (.tup [lD .pair p2, iD d, iD 0]))
    (h10 : Gives O 10 [] (bD true)) (g11 : Gives O 11 [vD (.mk 8 0 nmE A), vD (.mk 8 0 nmE B)] (bD (d == 0))) (lx : A.length ≤ 7) (ly : B.length ≤ 7) (hd : d ≤ 2 * (A.length + B.length))
    (R : RR) (hR : R (bD true) []) : vcF (S := SS) O ir3 [lD .int x, lD .int y] [] R := by
  refine ⟨by show 2 ≤ 65; omega, rfl, ?_⟩
  conv => whnf
  refine ⟨[], ?_⟩
  conv => whnf
  refine gx _ ?_
  conv => whnf
  refine ⟨[], ?_⟩
  conv => whnf
  refine gy _ ?_
  conv => whnf
  refine ⟨[], ?_⟩
  conv => whnf
  refine g9 _ ?_
  conv => whnf
  refine ⟨[], ?_⟩
  conv => whnf
  refine g9' _ ?_
  conv => whnf
  refine ⟨[], ?_⟩
  conv => whnf
  refine h10 _ ?_
  conv => whnf
  intro t ht
  obtain rfl : t = true := ht
  conv => whnf
  intro t ht
  obtain rfl : t = true := ht
  conv => whnf
  intro t ht
  have ht : t = (d == d) := ht
  have ht : t = true := by simpa using ht
  subst ht
  conv => whnf
  intro t1 ht1
  have ht1 : t1 = (d == 0) := ht1
  rw [← ht1] at g11
  conv => whnf
  refine ⟨[], ?_⟩
  conv => whnf
  refine g11 _ ?_
  clear ht1 g11
  cases t1
  all_goals
    conv => whnf
    intro (h1 : A.length ≤ 9223372036854775807)
    conv => whnf
    intro (h2 : B.length ≤ 9223372036854775807)
    conv => whnf
    intro t ht
    have w1 : IntKind.wrap .i64 ((A.length : Int) + B.length) = (A.length : Int) + B.length := wrapS _ (by omega) (by omega)
    have ht : t = decide (d ≤ IntKind.wrap .i64 (2 * IntKind.wrap .i64 ((A.length : Int) + B.length))) := ht
    have w2 : IntKind.wrap .i64 (2 * ((A.length : Int) + B.length)) = 2 * ((A.length : Int) + B.length) := wrapS _ (by omega) (by omega)
    rw [w1, w2] at ht
    have ht : t = true := by rw [ht]; exact decide_eq_true hd
    subst ht
    exact ⟨[], .nil, hR⟩

theorem vc3 (h8 : ∀ l : LIS, Gives O 8 [lD .int l] (vD (listV l))) (h9 : ∀ x y : LIS, Gives O 9 [vD (listV x), vD (listV y)] (edD x y)) (h10 : Gives O 10 [] (bD true))
    (h11 : ∀ a b, Gives O 11 [vD a, vD b] (bD (decide (cmpV a b = 0)))) (x y : LIS) (R : RR) (hR : R (bD true) []) :
    vcF (S := SS) O ir3 [lD .int x, lD .int y] [] R := by
  have g9' := h9 y x
  rw [edD, dist_sym _ _ (el_list y) (el_list x)] at g9'
  have g11 := h11 (listV x) (listV y)
  rw [← law_metric x y] at g11
  exact vc3_of x y (listV x).fs (listV y).fs _ _ _ (h8 x) (h8 y) (h9 x y) g9' h10 g11 (len_list x) (len_list y) (distL_bound _ _ (costOk_el (el_list x) (el_list y))).2 R hR

end Go.Clap
