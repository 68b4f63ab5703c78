/- Contracts: size and depth of values. -/
import Derived.Test.YtnielhfaioakkaaClapV2
set_option linter.unusedVariables false
set_option linter.unusedSimpArgs false
namespace Go.Clap
variable {O : Oracle TT}

mutual
def sizeV : V → Int
  | .mk _ _ _ fs => sizeAcc 1 fs
def sizeAcc (n : Int) : List (ByteArray × V) → Int
  | [] => n
  | (_, v) :: xs => sizeAcc (IntKind.wrap .i64 (n + sizeV v)) xs
end

theorem vc75 (v : V) (h75 : ∀ x ∈ v.fs, Gives O 75 [vD x.2] (iD (sizeV x.2))) (R : RR) (hR : R (iD (sizeV v)) []) : vcF (S := SS) O ir75 [vD v] [] R := by
  obtain ⟨k, n, s, fs⟩ := v
  refine ⟨by show 1 ≤ 20; omega, rfl, ?_⟩
  conv => whnf
  intro (hlen : fs.length ≤ 9223372036854775807)
  conv => whnf
  refine ⟨fun σ n => ∃ (i : Nat) (m : Int), i ≤ fs.length ∧ n = fs.length - i ∧ sizeAcc 1 fs = sizeAcc m (fs.drop i) ∧
    σ.keep [3, 7, 8, 9] [] = ⟨[(3, iD m), (7, lD .fld fs), (8, iD fs.length), (9, iD i)], []⟩, ⟨fs.length, 0, 1, by omega, by omega, rfl, rfl⟩, ?_⟩
  rintro σ n ⟨i, m, hi, rfl, hor, hσ⟩
  unfold vcC
  rw [hσ]
  conv => whnf
  intro t (ht : t = decide ((i : Int) < fs.length))
  cases t
  rotate_left
  · have h : (i : Int) < fs.length := of_decide_eq_true ht.symm
    conv => whnf
    refine ⟨(⟨by omega, by omega⟩ : (0 : Int) ≤ i ∧ (i : Int) < fs.length), fun (u : ByteArray × V) (hu : fs[(i : Int).toNat]? = some u) => ?_⟩
    have hu : fs[i]? = some u := by simpa using hu
    have hm := h75 u (List.mem_of_getElem? hu)
    obtain ⟨s', k', n', t', fs'⟩ := u
    conv => whnf
    refine ⟨[], ?_⟩
    conv => whnf
    refine hm _ ?_
    conv => whnf
    refine ⟨fs.length - (i + 1), by omega, i + 1, IntKind.wrap .i64 (m + sizeV (.mk k' n' t' fs')), by omega, rfl, ?_, ?_⟩
    · rw [hor, drop_cons hu, sizeAcc]
    · rw [← wrap_succ (show i < fs.length by omega) hlen]
      rfl
  · have h : ¬ (i : Int) < fs.length := of_decide_eq_false ht.symm
    conv => whnf
    refine ⟨[], .nil, ?_⟩
    have h0 : fs.drop i = [] := List.drop_eq_nil_of_le (by omega)
    rw [sizeV, hor, h0, sizeAcc] at hR
    exact hR

mutual
def deepV : V → Int
  | .mk _ _ _ fs => IntKind.wrap .i64 (deepAcc 0 fs + 1)
def deepAcc (n : Int) : List (ByteArray × V) → Int
  | [] => n
  | (_, v) :: xs => deepAcc (if deepV v > n then deepV v else n) xs
end

theorem vc76 (v : V) (h76 : ∀ x ∈ v.fs, Gives O 76 [vD x.2] (iD (deepV x.2))) (R : RR) (hR : R (iD (deepV v)) []) : vcF (S := SS) O ir76 [vD v] [] R := by
  obtain ⟨k, n, s, fs⟩ := v
  refine ⟨by show 1 ≤ 21; omega, rfl, ?_⟩
  conv => whnf
  intro (hlen : fs.length ≤ 9223372036854775807)
  conv => whnf
  refine ⟨fun σ n => ∃ (i : Nat) (m : Int), i ≤ fs.length ∧ n = fs.length - i ∧ deepAcc 0 fs = deepAcc m (fs.drop i) ∧
    σ.keep [3, 7, 8, 9] [] = ⟨[(3, iD m), (7, lD .fld fs), (8, iD fs.length), (9, iD i)], []⟩, ⟨fs.length, 0, 0, by omega, by omega, rfl, rfl⟩, ?_⟩
  rintro σ n ⟨i, m, hi, rfl, hor, hσ⟩
  unfold vcC
  rw [hσ]
  conv => whnf
  intro t (ht : t = decide ((i : Int) < fs.length))
  cases t
  rotate_left
  · have h : (i : Int) < fs.length := of_decide_eq_true ht.symm
    conv => whnf
    refine ⟨(⟨by omega, by omega⟩ : (0 : Int) ≤ i ∧ (i : Int) < fs.length), fun (u : ByteArray × V) (hu : fs[(i : Int).toNat]? = some u) => ?_⟩
    have hu : fs[i]? = some u := by simpa using hu
    have hm := h76 u (List.mem_of_getElem? hu)
    obtain ⟨s', k', n', t', fs'⟩ := u
    conv => whnf
    refine ⟨[], ?_⟩
    conv => whnf
    refine hm _ ?_
    conv => whnf
    refine ⟨fs.length - (i + 1), by omega, i + 1, if deepV (.mk k' n' t' fs') > m then deepV (.mk k' n' t' fs') else m, by omega, rfl, ?_, ?_⟩
    · rw [hor, drop_cons hu, deepAcc]
    · rw [← wrap_succ (show i < fs.length by omega) hlen]
      rfl
  · have h : ¬ (i : Int) < fs.length := of_decide_eq_false ht.symm
    conv => whnf
    refine ⟨[], .nil, ?_⟩
    have h0 : fs.drop i = [] := List.drop_eq_nil_of_le (by omega)
    rw [deepV, hor, h0, deepAcc] at hR
    exact hR

end Go.Clap
