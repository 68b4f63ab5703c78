/- The contracts of comparing, of the loaded functions. -/
import Derived.Test.YtnielhfaioakkaaGreatClapV0
set_option linter.unusedVariables false
set_option linter.unusedSimpArgs false
namespace Go.Clap
variable {P : Program} {fid : Nat → FuncId}

structure HCmp (P : Program) (fid : Nat → FuncId) : Prop where
  mx : P.follows .mixedOrders = true
  c59 : chkF SS P fid 59 ir59 = true
  c38 : chkF SS P fid 38 ir38 = true
  c53 : chkF SS P fid 53 ir53 = true
  c52 : chkF SS P fid 52 ir52 = true
  c78 : chkF SS P fid 78 ir78 = true
  c54 : chkF SS P fid 54 ir54 = true
  c56 : chkF SS P fid 56 ir56 = true
  c55 : chkF SS P fid 55 ir55 = true
  c34 : chkF SS P fid 34 ir34 = true
  c11 : chkF SS P fid 11 ir11 = true

theorem g59 (H : HCmp P fid) (n : Int) : Gives (Spec SS P fid) 59 [iD n] (bD false) := fun R hR => spec_of_vc H.mx H.c59 (vc59 n R hR)
theorem g38 (H : HCmp P fid) (a b : Int) : Gives (Spec SS P fid) 38 [iD a, iD b] (iD (cmpI a b)) := fun R hR => spec_of_vc H.mx H.c38 (vc38 (g59 H) a b R hR)
theorem g53 (H : HCmp P fid) (l : List Int) : Gives (Spec SS P fid) 53 [lD .int l] (iD (orI l)) := fun R hR => spec_of_vc H.mx H.c53 (vc53 l R hR)
theorem g52 (H : HCmp P fid) (n : Int) : Gives (Spec SS P fid) 52 [iD n] (iD (ordI n)) := fun R hR => spec_of_vc H.mx H.c52 (vc52 n R hR)
theorem g78 (H : HCmp P fid) (a b : ByteArray) : Gives (Spec SS P fid) 78 [sD a, sD b] (iD (cmpB a b)) := fun R hR => spec_of_vc H.mx H.c78 (vc78 a b R hR)
theorem g54 (H : HCmp P fid) (a b : ByteArray) : Gives (Spec SS P fid) 54 [sD a, sD b] (iD (cmpB a b)) := fun R hR => spec_of_vc H.mx H.c54 (vc54 (g78 H) a b R hR)

theorem size_fs {k n : Int} {s : ByteArray} {fs : List (ByteArray × V)} {x : ByteArray × V} (h : x ∈ fs) : SizeOf.sizeOf x.2 < SizeOf.sizeOf (V.mk k n s fs) := by
  have h1 := List.sizeOf_lt_of_mem h
  obtain ⟨t, v⟩ := x
  simp at h1 ⊢
  omega

theorem g34 (H : HCmp P fid) : ∀ a b : V, Gives (Spec SS P fid) 34 [vD a, vD b] (iD (cmpV a b))
  | .mk k n s fs, b => by
    have ih : ∀ x ∈ fs, ∀ y : ByteArray × V, Gives (Spec SS P fid) 56 [fD x, fD y] (iD (cmpF x y)) := fun x hx y R hR =>
      spec_of_vc H.mx H.c56 (vc56 (g54 H) (g53 H) x y (g34 H x.2 y.2) R hR)
    have h55 : Gives (Spec SS P fid) 55 [lD .fld fs, lD .fld b.fs, .c (.fn 56 [])] (iD (cmpFs fs b.fs)) := fun R hR =>
      spec_of_vc H.mx H.c55 (vc55 56 cmpF fs b.fs ih R (by rw [← cmpFs_eq]; exact hR))
    exact fun R hR => spec_of_vc H.mx H.c34 (vc34 (g52 H) (g38 H) (g54 H) (g53 H) (.mk k n s fs) b h55 R hR)
termination_by a => SizeOf.sizeOf a
decreasing_by exact size_fs hx

theorem g11 (H : HCmp P fid) (a b : V) : Gives (Spec SS P fid) 11 [vD a, vD b] (bD (decide (cmpV a b = 0))) := fun R hR =>
  spec_of_vc H.mx H.c11 (vc11 a b (g34 H a b) R hR)

end Go.Clap
